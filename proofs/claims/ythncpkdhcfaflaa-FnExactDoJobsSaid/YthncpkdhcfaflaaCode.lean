/- The resolved code of the functions that are reached, and that it stands for the program's own. -/
import Derived.Test.YthncpkdhcfaflaaAbsN
import Derived.Test.YthncpkdhcfaflaaProg
set_option linter.unusedVariables false
namespace Go.Proofs.Ythncpkdhcfaflaa
open Go Go.RowKit Go.Proofs.Ythncpkdhcfaflaa.Abs
theorem mixed : Try.prog.follows .mixedOrders = true := by kernel_rfl
def r2 : RC := (.reg [.op (some 0) (.call (.v (.lit (.func (.func 1) #[] #[]))) [])])
def rs2 : List RR := []
def cut2 : Nat → Nat := fun id => 0
theorem k2 : (Try.f2.body.bind fun c => comp Try.prog Try.f2.ntmps cut2 c) = some r2 := by kernel_rfl
theorem by2 {W0 : World} {σ : List Blk} {args : List AV} {K : Cont} (hn : args.length ≤ 1) (h : rW Try.prog W0 σ.length r2 (initFr args) σ (finP W0 rs2 σ.length K)) : ACall Try.prog W0 2 args σ K :=
  ACall.introR mixed Try.func2 (by kernel_rfl) k2 (by kernel_rfl) hn h
def r3 : RC := (.seq (.reg [.op (some 2) (.mv (.v (.lit (.bool false))))])
 (.seq (.reg [.op (some 3) (.mv (.v (.lit (.int .i64 (1048576)))))])
 (.seq (.reg [.op (some 14) (.mv (.t 0)),
  .op (some 15) (.mv (.t 3)),
  .op (some 16) (.call (.v (.lit (.func (.func 13) #[] #[]))) [(.t 14), (.t 15)]),
  .op (some 3) (.mv (.t 16))])
 (.seq (.seq (.reg [.op (some 17) (.mv (.t 3)),
  .op (some 18) (.binI .lss (.t 17) (.v (.lit (.int .i64 (0)))))])
 (.cond (.t 18)
 (.seq (.reg [.op (some 2) (.mv (.v (.lit (.bool true))))])
 .ret)
 .skip))
 (.seq (.reg [.op (some 20) (.mv (.t 0)),
  .op (some 21) (.call (.v (.lit (.func (.func 15) #[] #[]))) [(.t 20)]),
  .op (some 22) (.call (.v (.lit (.func (.func 14) #[] #[]))) [(.t 21)]),
  .op (some 19) (.mv (.t 22)),
  .op (some 23) (.ext (.t 19) 0),
  .op (some 24) (.ext (.t 19) 1),
  .op (some 4) (.mv (.t 23)),
  .op (some 5) (.mv (.t 24))])
 (.seq (.reg [.op (some 25) (.mv (.t 0)),
  .op (some 26) (.call (.v (.lit (.func (.func 15) #[] #[]))) [(.t 25)]),
  .op (some 6) (.mv (.t 26))])
 (.seq (.reg [.op (some 28) (.mv (.t 6)),
  .op (some 29) (.call (.v (.lit (.func (.func 16) #[] #[]))) [(.t 28)]),
  .op (some 27) (.mv (.t 29)),
  .op (some 30) (.ext (.t 27) 0),
  .op (some 31) (.ext (.t 27) 1),
  .op (some 7) (.mv (.t 30)),
  .op (some 8) (.mv (.t 31))])
 (.seq (.seq (.reg [.op (some 32) (.mv (.t 7)),
  .op (some 33) (.mv (.t 4)),
  .op (some 34) (.call (.v (.lit (.func (.func 17) #[] #[]))) [(.t 32), (.t 33)]),
  .op (some 35) (.un .not (.t 34)),
  .op (some 36) (.mv (.t 35)),
  .grp 36 false [((some 37), (.mv (.t 8))), ((some 38), (.mv (.t 5))), ((some 39), (.binB true (.t 37) (.t 38)))],
  .op (some 40) (.pick (.t 36) (.v (.lit (.bool true))) (.t 39))])
 (.cond (.t 40)
 (.seq (.reg [.op (some 2) (.mv (.v (.lit (.bool false))))])
 .ret)
 .skip))
 (.seq (.seq (.reg [.op (some 41) (.mv (.t 6)),
  .op (some 42) (.mv (.t 0)),
  .op (some 43) (.call (.v (.lit (.func (.func 15) #[] #[]))) [(.t 42)]),
  .op (some 44) (.call (.v (.lit (.func (.func 18) #[] #[]))) [(.t 41), (.t 43)]),
  .op (some 45) (.un .not (.t 44))])
 (.cond (.t 45)
 (.seq (.reg [.op (some 2) (.mv (.v (.lit (.bool false))))])
 .ret)
 .skip))
 (.seq (.reg [.op (some 9) (.mv (.v (.lit (.int .i64 (1)))))])
 (.seq (.reg [.op (some 46) (.mv (.t 6)),
  .op (some 47) (.mv (.t 9)),
  .op (some 48) (.call (.v (.lit (.func (.func 19) #[] #[]))) [(.t 46), (.t 47)]),
  .op (some 9) (.mv (.t 48))])
 (.seq (.seq (.reg [.op (some 49) (.mv (.t 9)),
  .op (some 50) (.binI .lss (.t 49) (.v (.lit (.int .i64 (0))))),
  .op (some 51) (.mv (.t 50)),
  .grp 51 false [((some 52), (.mv (.t 7))), ((some 53), (.mv (.t 4))), ((some 54), (.call (.v (.lit (.func (.func 17) #[] #[]))) [(.t 52), (.t 53)])), ((some 55), (.un .not (.t 54)))],
  .op (some 56) (.pick (.t 51) (.v (.lit (.bool true))) (.t 55)),
  .op (some 57) (.mv (.t 56)),
  .grp 57 false [((some 58), (.mv (.t 8))), ((some 59), (.mv (.t 5))), ((some 60), (.binB true (.t 58) (.t 59)))],
  .op (some 61) (.pick (.t 57) (.v (.lit (.bool true))) (.t 60))])
 (.cond (.t 61)
 (.seq (.reg [.op (some 2) (.mv (.v (.lit (.bool false))))])
 .ret)
 .skip))
 (.seq (.reg [.op (some 10) (.mv (.v (.lit (.int .i64 (1)))))])
 (.seq (.reg [.op (some 62) (.mv (.t 7)),
  .op (some 63) (.mv (.t 10)),
  .op (some 64) (.call (.v (.lit (.func (.func 20) #[] #[]))) [(.t 62), (.t 63)]),
  .op (some 10) (.mv (.t 64))])
 (.seq (.reg [.op (some 11) (.mv (.v (.lit (.int .i64 (1)))))])
 (.seq (.reg [.op (some 65) (.mv (.t 7)),
  .op (some 66) (.mv (.t 11)),
  .op (some 67) (.call (.v (.lit (.func (.func 21) #[] #[]))) [(.t 65), (.t 66)]),
  .op (some 11) (.mv (.t 67))])
 (.seq (.seq (.reg [.op (some 68) (.mv (.t 11)),
  .op (some 69) (.binI .lss (.t 68) (.v (.lit (.int .i64 (0)))))])
 (.cond (.t 69)
 (.seq (.reg [.op (some 2) (.mv (.v (.lit (.bool false))))])
 .ret)
 .skip))
 (.seq (.seq (.reg [.op (some 70) (.mv (.t 11)),
  .op (some 71) (.mv (.t 10)),
  .op (some 72) (.binI .neq (.t 70) (.t 71))])
 (.cond (.t 72)
 (.seq (.reg [.op (some 2) (.mv (.v (.lit (.bool false))))])
 .ret)
 .skip))
 (.seq (.reg [.op (some 74) (.mv (.t 0)),
  .op (some 75) (.call (.v (.lit (.func (.func 15) #[] #[]))) [(.t 74)]),
  .op (some 76) (.call (.v (.lit (.func (.func 16) #[] #[]))) [(.t 75)]),
  .op (some 73) (.mv (.t 76)),
  .op (some 77) (.ext (.t 73) 0),
  .op (some 78) (.ext (.t 73) 1),
  .op (some 12) (.mv (.t 77)),
  .op (some 13) (.mv (.t 78))])
 (.seq (.seq (.reg [.op (some 79) (.mv (.t 12)),
  .op (some 80) (.mv (.t 4)),
  .op (some 81) (.call (.v (.lit (.func (.func 17) #[] #[]))) [(.t 79), (.t 80)]),
  .op (some 82) (.un .not (.t 81)),
  .op (some 83) (.mv (.t 82)),
  .grp 83 false [((some 84), (.mv (.t 13))), ((some 85), (.mv (.t 5))), ((some 86), (.binB true (.t 84) (.t 85)))],
  .op (some 87) (.pick (.t 83) (.v (.lit (.bool true))) (.t 86))])
 (.cond (.t 87)
 (.seq (.reg [.op (some 2) (.mv (.v (.lit (.bool false))))])
 .ret)
 .skip))
 (.seq (.reg [.op (some 11) (.mv (.v (.lit (.int .i64 (1)))))])
 (.seq (.reg [.op (some 88) (.mv (.t 7)),
  .op (some 89) (.mv (.t 11)),
  .op (some 90) (.call (.v (.lit (.func (.func 21) #[] #[]))) [(.t 88), (.t 89)]),
  .op (some 11) (.mv (.t 90))])
 (.seq (.seq (.reg [.op (some 91) (.mv (.t 11)),
  .op (some 92) (.binI .lss (.t 91) (.v (.lit (.int .i64 (0)))))])
 (.cond (.t 92)
 (.seq (.reg [.op (some 2) (.mv (.v (.lit (.bool false))))])
 .ret)
 .skip))
 (.seq (.seq (.reg [.op (some 93) (.mv (.t 11)),
  .op (some 94) (.mv (.t 10)),
  .op (some 95) (.binI .neq (.t 93) (.t 94))])
 (.cond (.t 95)
 (.seq (.reg [.op (some 2) (.mv (.v (.lit (.bool false))))])
 .ret)
 .skip))
 (.seq (.reg [.op (some 2) (.mv (.v (.lit (.bool true))))])
 .ret)))))))))))))))))))))))))
def rs3 : List RR := [.tmp 2]
def cut3 : Nat → Nat := fun id => 0
theorem k3 : (Try.f3.body.bind fun c => comp Try.prog Try.f3.ntmps cut3 c) = some r3 := by kernel_rfl
theorem by3 {W0 : World} {σ : List Blk} {args : List AV} {K : Cont} (hn : args.length ≤ 96) (h : rW Try.prog W0 σ.length r3 (initFr args) σ (finP W0 rs3 σ.length K)) : ACall Try.prog W0 3 args σ K :=
  ACall.introR mixed Try.func3 (by kernel_rfl) k3 (by kernel_rfl) hn h
def r4 : RC := (.seq (.reg [.op (some 2) (.mv (.v (.lit (.bool false))))])
 (.seq (.reg [.op (some 3) (.mv (.v (.lit (.int .i64 (1048576)))))])
 (.seq (.reg [.op (some 14) (.mv (.t 0)),
  .op (some 15) (.mv (.t 3)),
  .op (some 16) (.call (.v (.lit (.func (.func 13) #[] #[]))) [(.t 14), (.t 15)]),
  .op (some 3) (.mv (.t 16))])
 (.seq (.seq (.reg [.op (some 17) (.mv (.t 3)),
  .op (some 18) (.binI .lss (.t 17) (.v (.lit (.int .i64 (0)))))])
 (.cond (.t 18)
 (.seq (.reg [.op (some 2) (.mv (.v (.lit (.bool true))))])
 .ret)
 .skip))
 (.seq (.reg [.op (some 20) (.mv (.t 0)),
  .op (some 21) (.call (.v (.lit (.func (.func 15) #[] #[]))) [(.t 20)]),
  .op (some 22) (.call (.v (.lit (.func (.func 22) #[] #[]))) [(.t 21)]),
  .op (some 19) (.mv (.t 22)),
  .op (some 23) (.ext (.t 19) 0),
  .op (some 24) (.ext (.t 19) 1),
  .op (some 4) (.mv (.t 23)),
  .op (some 5) (.mv (.t 24))])
 (.seq (.reg [.op (some 25) (.mv (.t 0)),
  .op (some 26) (.call (.v (.lit (.func (.func 15) #[] #[]))) [(.t 25)]),
  .op (some 6) (.mv (.t 26))])
 (.seq (.reg [.op (some 28) (.mv (.t 6)),
  .op (some 29) (.call (.v (.lit (.func (.func 23) #[] #[]))) [(.t 28)]),
  .op (some 27) (.mv (.t 29)),
  .op (some 30) (.ext (.t 27) 0),
  .op (some 31) (.ext (.t 27) 1),
  .op (some 7) (.mv (.t 30)),
  .op (some 8) (.mv (.t 31))])
 (.seq (.seq (.reg [.op (some 32) (.mv (.t 7)),
  .op (some 33) (.mv (.t 4)),
  .op (some 34) (.call (.v (.lit (.func (.func 24) #[] #[]))) [(.t 32), (.t 33)]),
  .op (some 35) (.un .not (.t 34)),
  .op (some 36) (.mv (.t 35)),
  .grp 36 false [((some 37), (.mv (.t 8))), ((some 38), (.mv (.t 5))), ((some 39), (.binB true (.t 37) (.t 38)))],
  .op (some 40) (.pick (.t 36) (.v (.lit (.bool true))) (.t 39))])
 (.cond (.t 40)
 (.seq (.reg [.op (some 2) (.mv (.v (.lit (.bool false))))])
 .ret)
 .skip))
 (.seq (.seq (.reg [.op (some 41) (.mv (.t 6)),
  .op (some 42) (.mv (.t 0)),
  .op (some 43) (.call (.v (.lit (.func (.func 15) #[] #[]))) [(.t 42)]),
  .op (some 44) (.call (.v (.lit (.func (.func 18) #[] #[]))) [(.t 41), (.t 43)]),
  .op (some 45) (.un .not (.t 44))])
 (.cond (.t 45)
 (.seq (.reg [.op (some 2) (.mv (.v (.lit (.bool false))))])
 .ret)
 .skip))
 (.seq (.reg [.op (some 9) (.mv (.v (.lit (.int .i64 (1)))))])
 (.seq (.reg [.op (some 46) (.mv (.t 6)),
  .op (some 47) (.mv (.t 9)),
  .op (some 48) (.call (.v (.lit (.func (.func 19) #[] #[]))) [(.t 46), (.t 47)]),
  .op (some 9) (.mv (.t 48))])
 (.seq (.seq (.reg [.op (some 49) (.mv (.t 9)),
  .op (some 50) (.binI .lss (.t 49) (.v (.lit (.int .i64 (0))))),
  .op (some 51) (.mv (.t 50)),
  .grp 51 false [((some 52), (.mv (.t 7))), ((some 53), (.mv (.t 4))), ((some 54), (.call (.v (.lit (.func (.func 24) #[] #[]))) [(.t 52), (.t 53)])), ((some 55), (.un .not (.t 54)))],
  .op (some 56) (.pick (.t 51) (.v (.lit (.bool true))) (.t 55)),
  .op (some 57) (.mv (.t 56)),
  .grp 57 false [((some 58), (.mv (.t 8))), ((some 59), (.mv (.t 5))), ((some 60), (.binB true (.t 58) (.t 59)))],
  .op (some 61) (.pick (.t 57) (.v (.lit (.bool true))) (.t 60))])
 (.cond (.t 61)
 (.seq (.reg [.op (some 2) (.mv (.v (.lit (.bool false))))])
 .ret)
 .skip))
 (.seq (.reg [.op (some 10) (.mv (.v (.lit (.int .i64 (1)))))])
 (.seq (.reg [.op (some 62) (.mv (.t 7)),
  .op (some 63) (.mv (.t 10)),
  .op (some 64) (.call (.v (.lit (.func (.func 25) #[] #[]))) [(.t 62), (.t 63)]),
  .op (some 10) (.mv (.t 64))])
 (.seq (.reg [.op (some 11) (.mv (.v (.lit (.int .i64 (1)))))])
 (.seq (.reg [.op (some 65) (.mv (.t 7)),
  .op (some 66) (.mv (.t 11)),
  .op (some 67) (.call (.v (.lit (.func (.func 26) #[] #[]))) [(.t 65), (.t 66)]),
  .op (some 11) (.mv (.t 67))])
 (.seq (.seq (.reg [.op (some 68) (.mv (.t 11)),
  .op (some 69) (.binI .lss (.t 68) (.v (.lit (.int .i64 (0)))))])
 (.cond (.t 69)
 (.seq (.reg [.op (some 2) (.mv (.v (.lit (.bool false))))])
 .ret)
 .skip))
 (.seq (.seq (.reg [.op (some 70) (.mv (.t 11)),
  .op (some 71) (.mv (.t 10)),
  .op (some 72) (.binI .neq (.t 70) (.t 71))])
 (.cond (.t 72)
 (.seq (.reg [.op (some 2) (.mv (.v (.lit (.bool false))))])
 .ret)
 .skip))
 (.seq (.reg [.op (some 74) (.mv (.t 0)),
  .op (some 75) (.call (.v (.lit (.func (.func 15) #[] #[]))) [(.t 74)]),
  .op (some 76) (.call (.v (.lit (.func (.func 23) #[] #[]))) [(.t 75)]),
  .op (some 73) (.mv (.t 76)),
  .op (some 77) (.ext (.t 73) 0),
  .op (some 78) (.ext (.t 73) 1),
  .op (some 12) (.mv (.t 77)),
  .op (some 13) (.mv (.t 78))])
 (.seq (.seq (.reg [.op (some 79) (.mv (.t 12)),
  .op (some 80) (.mv (.t 4)),
  .op (some 81) (.call (.v (.lit (.func (.func 24) #[] #[]))) [(.t 79), (.t 80)]),
  .op (some 82) (.un .not (.t 81)),
  .op (some 83) (.mv (.t 82)),
  .grp 83 false [((some 84), (.mv (.t 13))), ((some 85), (.mv (.t 5))), ((some 86), (.binB true (.t 84) (.t 85)))],
  .op (some 87) (.pick (.t 83) (.v (.lit (.bool true))) (.t 86))])
 (.cond (.t 87)
 (.seq (.reg [.op (some 2) (.mv (.v (.lit (.bool false))))])
 .ret)
 .skip))
 (.seq (.reg [.op (some 11) (.mv (.v (.lit (.int .i64 (1)))))])
 (.seq (.reg [.op (some 88) (.mv (.t 7)),
  .op (some 89) (.mv (.t 11)),
  .op (some 90) (.call (.v (.lit (.func (.func 26) #[] #[]))) [(.t 88), (.t 89)]),
  .op (some 11) (.mv (.t 90))])
 (.seq (.seq (.reg [.op (some 91) (.mv (.t 11)),
  .op (some 92) (.binI .lss (.t 91) (.v (.lit (.int .i64 (0)))))])
 (.cond (.t 92)
 (.seq (.reg [.op (some 2) (.mv (.v (.lit (.bool false))))])
 .ret)
 .skip))
 (.seq (.seq (.reg [.op (some 93) (.mv (.t 11)),
  .op (some 94) (.mv (.t 10)),
  .op (some 95) (.binI .neq (.t 93) (.t 94))])
 (.cond (.t 95)
 (.seq (.reg [.op (some 2) (.mv (.v (.lit (.bool false))))])
 .ret)
 .skip))
 (.seq (.reg [.op (some 2) (.mv (.v (.lit (.bool true))))])
 .ret)))))))))))))))))))))))))
def rs4 : List RR := [.tmp 2]
def cut4 : Nat → Nat := fun id => 0
theorem k4 : (Try.f4.body.bind fun c => comp Try.prog Try.f4.ntmps cut4 c) = some r4 := by kernel_rfl
theorem by4 {W0 : World} {σ : List Blk} {args : List AV} {K : Cont} (hn : args.length ≤ 96) (h : rW Try.prog W0 σ.length r4 (initFr args) σ (finP W0 rs4 σ.length K)) : ACall Try.prog W0 4 args σ K :=
  ACall.introR mixed Try.func4 (by kernel_rfl) k4 (by kernel_rfl) hn h
def r5 : RC := (.seq (.reg [.op (some 2) (.mv (.v (.lit (.bool false))))])
 (.seq (.reg [.op (some 3) (.mv (.v (.lit (.int .i64 (1048576)))))])
 (.seq (.reg [.op (some 14) (.mv (.t 0)),
  .op (some 15) (.mv (.t 3)),
  .op (some 16) (.call (.v (.lit (.func (.func 13) #[] #[]))) [(.t 14), (.t 15)]),
  .op (some 3) (.mv (.t 16))])
 (.seq (.seq (.reg [.op (some 17) (.mv (.t 3)),
  .op (some 18) (.binI .lss (.t 17) (.v (.lit (.int .i64 (0)))))])
 (.cond (.t 18)
 (.seq (.reg [.op (some 2) (.mv (.v (.lit (.bool true))))])
 .ret)
 .skip))
 (.seq (.reg [.op (some 20) (.mv (.t 0)),
  .op (some 21) (.call (.v (.lit (.func (.func 15) #[] #[]))) [(.t 20)]),
  .op (some 22) (.call (.v (.lit (.func (.func 27) #[] #[]))) [(.t 21)]),
  .op (some 19) (.mv (.t 22)),
  .op (some 23) (.ext (.t 19) 0),
  .op (some 24) (.ext (.t 19) 1),
  .op (some 4) (.mv (.t 23)),
  .op (some 5) (.mv (.t 24))])
 (.seq (.reg [.op (some 25) (.mv (.t 0)),
  .op (some 26) (.call (.v (.lit (.func (.func 15) #[] #[]))) [(.t 25)]),
  .op (some 6) (.mv (.t 26))])
 (.seq (.reg [.op (some 28) (.mv (.t 6)),
  .op (some 29) (.call (.v (.lit (.func (.func 28) #[] #[]))) [(.t 28)]),
  .op (some 27) (.mv (.t 29)),
  .op (some 30) (.ext (.t 27) 0),
  .op (some 31) (.ext (.t 27) 1),
  .op (some 7) (.mv (.t 30)),
  .op (some 8) (.mv (.t 31))])
 (.seq (.seq (.reg [.op (some 32) (.mv (.t 7)),
  .op (some 33) (.mv (.t 4)),
  .op (some 34) (.call (.v (.lit (.func (.func 24) #[] #[]))) [(.t 32), (.t 33)]),
  .op (some 35) (.un .not (.t 34)),
  .op (some 36) (.mv (.t 35)),
  .grp 36 false [((some 37), (.mv (.t 8))), ((some 38), (.mv (.t 5))), ((some 39), (.binB true (.t 37) (.t 38)))],
  .op (some 40) (.pick (.t 36) (.v (.lit (.bool true))) (.t 39))])
 (.cond (.t 40)
 (.seq (.reg [.op (some 2) (.mv (.v (.lit (.bool false))))])
 .ret)
 .skip))
 (.seq (.seq (.reg [.op (some 41) (.mv (.t 6)),
  .op (some 42) (.mv (.t 0)),
  .op (some 43) (.call (.v (.lit (.func (.func 15) #[] #[]))) [(.t 42)]),
  .op (some 44) (.call (.v (.lit (.func (.func 18) #[] #[]))) [(.t 41), (.t 43)]),
  .op (some 45) (.un .not (.t 44))])
 (.cond (.t 45)
 (.seq (.reg [.op (some 2) (.mv (.v (.lit (.bool false))))])
 .ret)
 .skip))
 (.seq (.reg [.op (some 9) (.mv (.v (.lit (.int .i64 (1)))))])
 (.seq (.reg [.op (some 46) (.mv (.t 6)),
  .op (some 47) (.mv (.t 9)),
  .op (some 48) (.call (.v (.lit (.func (.func 19) #[] #[]))) [(.t 46), (.t 47)]),
  .op (some 9) (.mv (.t 48))])
 (.seq (.seq (.reg [.op (some 49) (.mv (.t 9)),
  .op (some 50) (.binI .lss (.t 49) (.v (.lit (.int .i64 (0))))),
  .op (some 51) (.mv (.t 50)),
  .grp 51 false [((some 52), (.mv (.t 7))), ((some 53), (.mv (.t 4))), ((some 54), (.call (.v (.lit (.func (.func 24) #[] #[]))) [(.t 52), (.t 53)])), ((some 55), (.un .not (.t 54)))],
  .op (some 56) (.pick (.t 51) (.v (.lit (.bool true))) (.t 55)),
  .op (some 57) (.mv (.t 56)),
  .grp 57 false [((some 58), (.mv (.t 8))), ((some 59), (.mv (.t 5))), ((some 60), (.binB true (.t 58) (.t 59)))],
  .op (some 61) (.pick (.t 57) (.v (.lit (.bool true))) (.t 60))])
 (.cond (.t 61)
 (.seq (.reg [.op (some 2) (.mv (.v (.lit (.bool false))))])
 .ret)
 .skip))
 (.seq (.reg [.op (some 10) (.mv (.v (.lit (.int .i64 (1)))))])
 (.seq (.reg [.op (some 62) (.mv (.t 7)),
  .op (some 63) (.mv (.t 10)),
  .op (some 64) (.call (.v (.lit (.func (.func 25) #[] #[]))) [(.t 62), (.t 63)]),
  .op (some 10) (.mv (.t 64))])
 (.seq (.reg [.op (some 11) (.mv (.v (.lit (.int .i64 (1)))))])
 (.seq (.reg [.op (some 65) (.mv (.t 7)),
  .op (some 66) (.mv (.t 11)),
  .op (some 67) (.call (.v (.lit (.func (.func 26) #[] #[]))) [(.t 65), (.t 66)]),
  .op (some 11) (.mv (.t 67))])
 (.seq (.seq (.reg [.op (some 68) (.mv (.t 11)),
  .op (some 69) (.binI .lss (.t 68) (.v (.lit (.int .i64 (0)))))])
 (.cond (.t 69)
 (.seq (.reg [.op (some 2) (.mv (.v (.lit (.bool false))))])
 .ret)
 .skip))
 (.seq (.seq (.reg [.op (some 70) (.mv (.t 11)),
  .op (some 71) (.mv (.t 10)),
  .op (some 72) (.binI .neq (.t 70) (.t 71))])
 (.cond (.t 72)
 (.seq (.reg [.op (some 2) (.mv (.v (.lit (.bool false))))])
 .ret)
 .skip))
 (.seq (.reg [.op (some 74) (.mv (.t 0)),
  .op (some 75) (.call (.v (.lit (.func (.func 15) #[] #[]))) [(.t 74)]),
  .op (some 76) (.call (.v (.lit (.func (.func 28) #[] #[]))) [(.t 75)]),
  .op (some 73) (.mv (.t 76)),
  .op (some 77) (.ext (.t 73) 0),
  .op (some 78) (.ext (.t 73) 1),
  .op (some 12) (.mv (.t 77)),
  .op (some 13) (.mv (.t 78))])
 (.seq (.seq (.reg [.op (some 79) (.mv (.t 12)),
  .op (some 80) (.mv (.t 4)),
  .op (some 81) (.call (.v (.lit (.func (.func 24) #[] #[]))) [(.t 79), (.t 80)]),
  .op (some 82) (.un .not (.t 81)),
  .op (some 83) (.mv (.t 82)),
  .grp 83 false [((some 84), (.mv (.t 13))), ((some 85), (.mv (.t 5))), ((some 86), (.binB true (.t 84) (.t 85)))],
  .op (some 87) (.pick (.t 83) (.v (.lit (.bool true))) (.t 86))])
 (.cond (.t 87)
 (.seq (.reg [.op (some 2) (.mv (.v (.lit (.bool false))))])
 .ret)
 .skip))
 (.seq (.reg [.op (some 11) (.mv (.v (.lit (.int .i64 (1)))))])
 (.seq (.reg [.op (some 88) (.mv (.t 7)),
  .op (some 89) (.mv (.t 11)),
  .op (some 90) (.call (.v (.lit (.func (.func 26) #[] #[]))) [(.t 88), (.t 89)]),
  .op (some 11) (.mv (.t 90))])
 (.seq (.seq (.reg [.op (some 91) (.mv (.t 11)),
  .op (some 92) (.binI .lss (.t 91) (.v (.lit (.int .i64 (0)))))])
 (.cond (.t 92)
 (.seq (.reg [.op (some 2) (.mv (.v (.lit (.bool false))))])
 .ret)
 .skip))
 (.seq (.seq (.reg [.op (some 93) (.mv (.t 11)),
  .op (some 94) (.mv (.t 10)),
  .op (some 95) (.binI .neq (.t 93) (.t 94))])
 (.cond (.t 95)
 (.seq (.reg [.op (some 2) (.mv (.v (.lit (.bool false))))])
 .ret)
 .skip))
 (.seq (.reg [.op (some 2) (.mv (.v (.lit (.bool true))))])
 .ret)))))))))))))))))))))))))
def rs5 : List RR := [.tmp 2]
def cut5 : Nat → Nat := fun id => 0
theorem k5 : (Try.f5.body.bind fun c => comp Try.prog Try.f5.ntmps cut5 c) = some r5 := by kernel_rfl
theorem by5 {W0 : World} {σ : List Blk} {args : List AV} {K : Cont} (hn : args.length ≤ 96) (h : rW Try.prog W0 σ.length r5 (initFr args) σ (finP W0 rs5 σ.length K)) : ACall Try.prog W0 5 args σ K :=
  ACall.introR mixed Try.func5 (by kernel_rfl) k5 (by kernel_rfl) hn h
def r6 : RC := (.seq (.reg [.op (some 2) (.box 42 (.t 0)),
  .op (some 4) (.mv (.v (.lit (.bool false))))])
 (.seq (.reg [.op (some 5) (.mv (.v (.lit (.int .i64 (1048576)))))])
 (.seq (.reg [.op (some 16) (.mv (.t 1)),
  .op (some 17) (.mv (.t 5)),
  .op (some 18) (.call (.v (.lit (.func (.func 13) #[] #[]))) [(.t 16), (.t 17)]),
  .op (some 5) (.mv (.t 18))])
 (.seq (.seq (.reg [.op (some 19) (.mv (.t 5)),
  .op (some 20) (.binI .lss (.t 19) (.v (.lit (.int .i64 (0)))))])
 (.cond (.t 20)
 (.seq (.reg [.op (some 4) (.mv (.v (.lit (.bool true))))])
 .ret)
 .skip))
 (.seq (.reg [.op (some 22) (.load 36 true (.t 2)),
  .op (some 23) (.call (.v (.lit (.func (.func 30) #[] #[]))) [(.t 22)]),
  .op (some 24) (.mv (.t 1)),
  .op (some 25) (.call (.v (.lit (.func (.func 15) #[] #[]))) [(.t 24)]),
  .op (some 26) (.call (.v (.lit (.func (.func 29) #[] #[]))) [(.t 23), (.t 25)]),
  .op (some 21) (.mv (.t 26)),
  .op (some 27) (.ext (.t 21) 0),
  .op (some 28) (.ext (.t 21) 1),
  .op (some 6) (.mv (.t 27)),
  .op (some 7) (.mv (.t 28))])
 (.seq (.reg [.op (some 29) (.mv (.t 1)),
  .op (some 30) (.call (.v (.lit (.func (.func 15) #[] #[]))) [(.t 29)]),
  .op (some 8) (.mv (.t 30))])
 (.seq (.reg [.op (some 32) (.load 36 true (.t 2)),
  .op (some 33) (.call (.v (.lit (.func (.func 30) #[] #[]))) [(.t 32)]),
  .op (some 34) (.mv (.t 8)),
  .op (some 35) (.call (.v (.lit (.func (.func 31) #[] #[]))) [(.t 33), (.t 34)]),
  .op (some 31) (.mv (.t 35)),
  .op (some 36) (.ext (.t 31) 0),
  .op (some 37) (.ext (.t 31) 1),
  .op (some 9) (.mv (.t 36)),
  .op (some 10) (.mv (.t 37))])
 (.seq (.seq (.reg [.op (some 38) (.mv (.t 9)),
  .op (some 39) (.mv (.t 6)),
  .op (some 40) (.call (.v (.lit (.func (.func 24) #[] #[]))) [(.t 38), (.t 39)]),
  .op (some 41) (.un .not (.t 40)),
  .op (some 42) (.mv (.t 41)),
  .grp 42 false [((some 43), (.mv (.t 10))), ((some 44), (.mv (.t 7))), ((some 45), (.binB true (.t 43) (.t 44)))],
  .op (some 46) (.pick (.t 42) (.v (.lit (.bool true))) (.t 45))])
 (.cond (.t 46)
 (.seq (.reg [.op (some 4) (.mv (.v (.lit (.bool false))))])
 .ret)
 .skip))
 (.seq (.seq (.reg [.op (some 47) (.mv (.t 8)),
  .op (some 48) (.mv (.t 1)),
  .op (some 49) (.call (.v (.lit (.func (.func 15) #[] #[]))) [(.t 48)]),
  .op (some 50) (.call (.v (.lit (.func (.func 18) #[] #[]))) [(.t 47), (.t 49)]),
  .op (some 51) (.un .not (.t 50))])
 (.cond (.t 51)
 (.seq (.reg [.op (some 4) (.mv (.v (.lit (.bool false))))])
 .ret)
 .skip))
 (.seq (.reg [.op (some 11) (.mv (.v (.lit (.int .i64 (1)))))])
 (.seq (.reg [.op (some 52) (.mv (.t 8)),
  .op (some 53) (.mv (.t 11)),
  .op (some 54) (.call (.v (.lit (.func (.func 19) #[] #[]))) [(.t 52), (.t 53)]),
  .op (some 11) (.mv (.t 54))])
 (.seq (.seq (.reg [.op (some 55) (.mv (.t 11)),
  .op (some 56) (.binI .lss (.t 55) (.v (.lit (.int .i64 (0))))),
  .op (some 57) (.mv (.t 56)),
  .grp 57 false [((some 58), (.mv (.t 9))), ((some 59), (.mv (.t 6))), ((some 60), (.call (.v (.lit (.func (.func 24) #[] #[]))) [(.t 58), (.t 59)])), ((some 61), (.un .not (.t 60)))],
  .op (some 62) (.pick (.t 57) (.v (.lit (.bool true))) (.t 61)),
  .op (some 63) (.mv (.t 62)),
  .grp 63 false [((some 64), (.mv (.t 10))), ((some 65), (.mv (.t 7))), ((some 66), (.binB true (.t 64) (.t 65)))],
  .op (some 67) (.pick (.t 63) (.v (.lit (.bool true))) (.t 66))])
 (.cond (.t 67)
 (.seq (.reg [.op (some 4) (.mv (.v (.lit (.bool false))))])
 .ret)
 .skip))
 (.seq (.reg [.op (some 12) (.mv (.v (.lit (.int .i64 (1)))))])
 (.seq (.reg [.op (some 68) (.mv (.t 9)),
  .op (some 69) (.mv (.t 12)),
  .op (some 70) (.call (.v (.lit (.func (.func 25) #[] #[]))) [(.t 68), (.t 69)]),
  .op (some 12) (.mv (.t 70))])
 (.seq (.reg [.op (some 13) (.mv (.v (.lit (.int .i64 (1)))))])
 (.seq (.reg [.op (some 71) (.mv (.t 9)),
  .op (some 72) (.mv (.t 13)),
  .op (some 73) (.call (.v (.lit (.func (.func 26) #[] #[]))) [(.t 71), (.t 72)]),
  .op (some 13) (.mv (.t 73))])
 (.seq (.seq (.reg [.op (some 74) (.mv (.t 13)),
  .op (some 75) (.binI .lss (.t 74) (.v (.lit (.int .i64 (0)))))])
 (.cond (.t 75)
 (.seq (.reg [.op (some 4) (.mv (.v (.lit (.bool false))))])
 .ret)
 .skip))
 (.seq (.seq (.reg [.op (some 76) (.mv (.t 13)),
  .op (some 77) (.mv (.t 12)),
  .op (some 78) (.binI .neq (.t 76) (.t 77))])
 (.cond (.t 78)
 (.seq (.reg [.op (some 4) (.mv (.v (.lit (.bool false))))])
 .ret)
 .skip))
 (.seq (.reg [.op (some 80) (.load 36 true (.t 2)),
  .op (some 81) (.call (.v (.lit (.func (.func 30) #[] #[]))) [(.t 80)]),
  .op (some 82) (.mv (.t 1)),
  .op (some 83) (.call (.v (.lit (.func (.func 15) #[] #[]))) [(.t 82)]),
  .op (some 84) (.call (.v (.lit (.func (.func 31) #[] #[]))) [(.t 81), (.t 83)]),
  .op (some 79) (.mv (.t 84)),
  .op (some 85) (.ext (.t 79) 0),
  .op (some 86) (.ext (.t 79) 1),
  .op (some 14) (.mv (.t 85)),
  .op (some 15) (.mv (.t 86))])
 (.seq (.seq (.reg [.op (some 87) (.mv (.t 14)),
  .op (some 88) (.mv (.t 6)),
  .op (some 89) (.call (.v (.lit (.func (.func 24) #[] #[]))) [(.t 87), (.t 88)]),
  .op (some 90) (.un .not (.t 89)),
  .op (some 91) (.mv (.t 90)),
  .grp 91 false [((some 92), (.mv (.t 15))), ((some 93), (.mv (.t 7))), ((some 94), (.binB true (.t 92) (.t 93)))],
  .op (some 95) (.pick (.t 91) (.v (.lit (.bool true))) (.t 94))])
 (.cond (.t 95)
 (.seq (.reg [.op (some 4) (.mv (.v (.lit (.bool false))))])
 .ret)
 .skip))
 (.seq (.reg [.op (some 13) (.mv (.v (.lit (.int .i64 (1)))))])
 (.seq (.reg [.op (some 96) (.mv (.t 9)),
  .op (some 97) (.mv (.t 13)),
  .op (some 98) (.call (.v (.lit (.func (.func 26) #[] #[]))) [(.t 96), (.t 97)]),
  .op (some 13) (.mv (.t 98))])
 (.seq (.seq (.reg [.op (some 99) (.mv (.t 13)),
  .op (some 100) (.binI .lss (.t 99) (.v (.lit (.int .i64 (0)))))])
 (.cond (.t 100)
 (.seq (.reg [.op (some 4) (.mv (.v (.lit (.bool false))))])
 .ret)
 .skip))
 (.seq (.seq (.reg [.op (some 101) (.mv (.t 13)),
  .op (some 102) (.mv (.t 12)),
  .op (some 103) (.binI .neq (.t 101) (.t 102))])
 (.cond (.t 103)
 (.seq (.reg [.op (some 4) (.mv (.v (.lit (.bool false))))])
 .ret)
 .skip))
 (.seq (.reg [.op (some 4) (.mv (.v (.lit (.bool true))))])
 .ret)))))))))))))))))))))))))
def rs6 : List RR := [.tmp 4]
def cut6 : Nat → Nat := fun id => 0
theorem k6 : (Try.f6.body.bind fun c => comp Try.prog Try.f6.ntmps cut6 c) = some r6 := by kernel_rfl
theorem by6 {W0 : World} {σ : List Blk} {args : List AV} {K : Cont} (hn : args.length ≤ 104) (h : rW Try.prog W0 σ.length r6 (initFr args) σ (finP W0 rs6 σ.length K)) : ACall Try.prog W0 6 args σ K :=
  ACall.introR mixed Try.func6 (by kernel_rfl) k6 (by kernel_rfl) hn h
def r7 : RC := (.seq (.reg [.op (some 3) (.box 42 (.t 0)),
  .op (some 6) (.mv (.v (.lit (.bool false))))])
 (.seq (.seq (.reg [.op (some 14) (.mv (.t 2)),
  .op (some 15) (.lenL (.t 14)),
  .op (some 16) (.binI .gtr (.t 15) (.v (.lit (.int .i64 (1048576)))))])
 (.cond (.t 16)
 (.seq (.reg [.op (some 6) (.mv (.v (.lit (.bool true))))])
 .ret)
 .skip))
 (.seq (.reg [.op (some 7) (.mv (.v (.lit (.int .i64 (1048576)))))])
 (.seq (.reg [.op (some 17) (.mv (.t 1)),
  .op (some 18) (.mv (.t 7)),
  .op (some 19) (.call (.v (.lit (.func (.func 13) #[] #[]))) [(.t 17), (.t 18)]),
  .op (some 7) (.mv (.t 19))])
 (.seq (.seq (.reg [.op (some 20) (.mv (.t 7)),
  .op (some 21) (.binI .lss (.t 20) (.v (.lit (.int .i64 (0)))))])
 (.cond (.t 21)
 (.seq (.reg [.op (some 6) (.mv (.v (.lit (.bool true))))])
 .ret)
 .skip))
 (.seq (.reg [.op (some 23) (.load 36 true (.t 3)),
  .op (some 24) (.call (.v (.lit (.func (.func 30) #[] #[]))) [(.t 23)]),
  .op (some 25) (.mv (.t 1)),
  .op (some 26) (.call (.v (.lit (.func (.func 15) #[] #[]))) [(.t 25)]),
  .op (some 27) (.mv (.t 2)),
  .op (some 28) (.call (.v (.lit (.func (.func 33) #[] #[]))) [(.t 27)]),
  .op (some 29) (.call (.v (.lit (.func (.func 32) #[] #[]))) [(.t 24), (.t 26), (.t 28)]),
  .op (some 22) (.mv (.t 29)),
  .op (some 30) (.ext (.t 22) 0),
  .op (some 31) (.ext (.t 22) 1),
  .op (some 8) (.mv (.t 30)),
  .op (some 9) (.mv (.t 31))])
 (.seq (.reg [.op (some 32) (.mv (.t 1)),
  .op (some 33) (.call (.v (.lit (.func (.func 15) #[] #[]))) [(.t 32)]),
  .op (some 10) (.mv (.t 33))])
 (.seq (.reg [.op (some 34) (.mv (.t 2)),
  .op (some 35) (.call (.v (.lit (.func (.func 33) #[] #[]))) [(.t 34)]),
  .op (some 11) (.mv (.t 35))])
 (.seq (.reg [.op (some 37) (.load 36 true (.t 3)),
  .op (some 38) (.call (.v (.lit (.func (.func 30) #[] #[]))) [(.t 37)]),
  .op (some 39) (.mv (.t 10)),
  .op (some 40) (.mv (.t 11)),
  .op (some 41) (.call (.v (.lit (.func (.func 34) #[] #[]))) [(.t 38), (.t 39), (.t 40)]),
  .op (some 36) (.mv (.t 41)),
  .op (some 42) (.ext (.t 36) 0),
  .op (some 43) (.ext (.t 36) 1),
  .op (some 12) (.mv (.t 42)),
  .op (some 13) (.mv (.t 43))])
 (.seq (.seq (.reg [.op (some 44) (.mv (.t 12)),
  .op (some 45) (.mv (.t 8)),
  .op (some 46) (.binB true (.t 44) (.t 45)),
  .op (some 47) (.mv (.t 46)),
  .grp 47 false [((some 48), (.mv (.t 13))), ((some 49), (.mv (.t 9))), ((some 50), (.binB true (.t 48) (.t 49)))],
  .op (some 51) (.pick (.t 47) (.v (.lit (.bool true))) (.t 50))])
 (.cond (.t 51)
 (.seq (.reg [.op (some 6) (.mv (.v (.lit (.bool false))))])
 .ret)
 .skip))
 (.seq (.seq (.reg [.op (some 52) (.mv (.t 10)),
  .op (some 53) (.mv (.t 1)),
  .op (some 54) (.call (.v (.lit (.func (.func 15) #[] #[]))) [(.t 53)]),
  .op (some 55) (.call (.v (.lit (.func (.func 18) #[] #[]))) [(.t 52), (.t 54)]),
  .op (some 56) (.un .not (.t 55))])
 (.cond (.t 56)
 (.seq (.reg [.op (some 6) (.mv (.v (.lit (.bool false))))])
 .ret)
 .skip))
 (.seq (.seq (.reg [.op (some 57) (.mv (.t 11)),
  .op (some 58) (.mv (.t 2)),
  .op (some 59) (.call (.v (.lit (.func (.func 33) #[] #[]))) [(.t 58)]),
  .op (some 60) (.call (.v (.lit (.func (.func 24) #[] #[]))) [(.t 57), (.t 59)]),
  .op (some 61) (.un .not (.t 60))])
 (.cond (.t 61)
 (.seq (.reg [.op (some 6) (.mv (.v (.lit (.bool false))))])
 .ret)
 .skip))
 (.seq (.reg [.op (some 6) (.mv (.v (.lit (.bool true))))])
 .ret)))))))))))))
def rs7 : List RR := [.tmp 6]
def cut7 : Nat → Nat := fun id => 0
theorem k7 : (Try.f7.body.bind fun c => comp Try.prog Try.f7.ntmps cut7 c) = some r7 := by kernel_rfl
theorem by7 {W0 : World} {σ : List Blk} {args : List AV} {K : Cont} (hn : args.length ≤ 62) (h : rW Try.prog W0 σ.length r7 (initFr args) σ (finP W0 rs7 σ.length K)) : ACall Try.prog W0 7 args σ K :=
  ACall.introR mixed Try.func7 (by kernel_rfl) k7 (by kernel_rfl) hn h
def r8 : RC := (.seq (.reg [.op (some 2) (.box 42 (.t 0)),
  .op (some 4) (.mv (.v (.lit (.bool false))))])
 (.seq (.reg [.op (some 5) (.mv (.v (.lit (.int .i64 (1048576)))))])
 (.seq (.reg [.op (some 11) (.mv (.t 1)),
  .op (some 12) (.mv (.t 5)),
  .op (some 13) (.call (.v (.lit (.func (.func 13) #[] #[]))) [(.t 11), (.t 12)]),
  .op (some 5) (.mv (.t 13))])
 (.seq (.seq (.reg [.op (some 14) (.mv (.t 5)),
  .op (some 15) (.binI .lss (.t 14) (.v (.lit (.int .i64 (0)))))])
 (.cond (.t 15)
 (.seq (.reg [.op (some 4) (.mv (.v (.lit (.bool true))))])
 .ret)
 .skip))
 (.seq (.reg [.op (some 17) (.load 36 true (.t 2)),
  .op (some 18) (.call (.v (.lit (.func (.func 30) #[] #[]))) [(.t 17)]),
  .op (some 19) (.mv (.t 1)),
  .op (some 20) (.call (.v (.lit (.func (.func 15) #[] #[]))) [(.t 19)]),
  .op (some 21) (.call (.v (.lit (.func (.func 35) #[] #[]))) [(.t 18), (.t 20)]),
  .op (some 16) (.mv (.t 21)),
  .op (some 22) (.ext (.t 16) 0),
  .op (some 23) (.ext (.t 16) 1),
  .op (some 6) (.mv (.t 22)),
  .op (some 7) (.mv (.t 23))])
 (.seq (.reg [.op (some 24) (.mv (.t 1)),
  .op (some 25) (.call (.v (.lit (.func (.func 15) #[] #[]))) [(.t 24)]),
  .op (some 8) (.mv (.t 25))])
 (.seq (.reg [.op (some 27) (.load 36 true (.t 2)),
  .op (some 28) (.call (.v (.lit (.func (.func 30) #[] #[]))) [(.t 27)]),
  .op (some 29) (.mv (.t 8)),
  .op (some 30) (.call (.v (.lit (.func (.func 36) #[] #[]))) [(.t 28), (.t 29)]),
  .op (some 26) (.mv (.t 30)),
  .op (some 31) (.ext (.t 26) 0),
  .op (some 32) (.ext (.t 26) 1),
  .op (some 9) (.mv (.t 31)),
  .op (some 10) (.mv (.t 32))])
 (.seq (.seq (.reg [.op (some 33) (.mv (.t 9)),
  .op (some 34) (.mv (.t 6)),
  .op (some 35) (.binI .neq (.t 33) (.t 34)),
  .op (some 36) (.mv (.t 35)),
  .grp 36 false [((some 37), (.mv (.t 10))), ((some 38), (.mv (.t 7))), ((some 39), (.binB true (.t 37) (.t 38)))],
  .op (some 40) (.pick (.t 36) (.v (.lit (.bool true))) (.t 39))])
 (.cond (.t 40)
 (.seq (.reg [.op (some 4) (.mv (.v (.lit (.bool false))))])
 .ret)
 .skip))
 (.seq (.seq (.reg [.op (some 41) (.mv (.t 8)),
  .op (some 42) (.mv (.t 1)),
  .op (some 43) (.call (.v (.lit (.func (.func 15) #[] #[]))) [(.t 42)]),
  .op (some 44) (.call (.v (.lit (.func (.func 18) #[] #[]))) [(.t 41), (.t 43)]),
  .op (some 45) (.un .not (.t 44))])
 (.cond (.t 45)
 (.seq (.reg [.op (some 4) (.mv (.v (.lit (.bool false))))])
 .ret)
 .skip))
 (.seq (.reg [.op (some 4) (.mv (.v (.lit (.bool true))))])
 .ret))))))))))
def rs8 : List RR := [.tmp 4]
def cut8 : Nat → Nat := fun id => 0
theorem k8 : (Try.f8.body.bind fun c => comp Try.prog Try.f8.ntmps cut8 c) = some r8 := by kernel_rfl
theorem by8 {W0 : World} {σ : List Blk} {args : List AV} {K : Cont} (hn : args.length ≤ 46) (h : rW Try.prog W0 σ.length r8 (initFr args) σ (finP W0 rs8 σ.length K)) : ACall Try.prog W0 8 args σ K :=
  ACall.introR mixed Try.func8 (by kernel_rfl) k8 (by kernel_rfl) hn h
def r9 : RC := (.seq (.reg [.op (some 2) (.box 42 (.t 0)),
  .op (some 4) (.mv (.v (.lit (.bool false))))])
 (.seq (.reg [.op (some 5) (.mv (.v (.lit (.int .i64 (1048576)))))])
 (.seq (.reg [.op (some 16) (.mv (.t 1)),
  .op (some 17) (.mv (.t 5)),
  .op (some 18) (.call (.v (.lit (.func (.func 13) #[] #[]))) [(.t 16), (.t 17)]),
  .op (some 5) (.mv (.t 18))])
 (.seq (.seq (.reg [.op (some 19) (.mv (.t 5)),
  .op (some 20) (.binI .lss (.t 19) (.v (.lit (.int .i64 (0)))))])
 (.cond (.t 20)
 (.seq (.reg [.op (some 4) (.mv (.v (.lit (.bool true))))])
 .ret)
 .skip))
 (.seq (.reg [.op (some 22) (.load 36 true (.t 2)),
  .op (some 23) (.call (.v (.lit (.func (.func 30) #[] #[]))) [(.t 22)]),
  .op (some 24) (.mv (.t 1)),
  .op (some 25) (.call (.v (.lit (.func (.func 15) #[] #[]))) [(.t 24)]),
  .op (some 26) (.call (.v (.lit (.func (.func 37) #[] #[]))) [(.t 23), (.t 25)]),
  .op (some 21) (.mv (.t 26)),
  .op (some 27) (.ext (.t 21) 0),
  .op (some 28) (.ext (.t 21) 1),
  .op (some 6) (.mv (.t 27)),
  .op (some 7) (.mv (.t 28))])
 (.seq (.reg [.op (some 29) (.mv (.t 1)),
  .op (some 30) (.call (.v (.lit (.func (.func 15) #[] #[]))) [(.t 29)]),
  .op (some 8) (.mv (.t 30))])
 (.seq (.reg [.op (some 32) (.load 36 true (.t 2)),
  .op (some 33) (.call (.v (.lit (.func (.func 30) #[] #[]))) [(.t 32)]),
  .op (some 34) (.mv (.t 8)),
  .op (some 35) (.call (.v (.lit (.func (.func 38) #[] #[]))) [(.t 33), (.t 34)]),
  .op (some 31) (.mv (.t 35)),
  .op (some 36) (.ext (.t 31) 0),
  .op (some 37) (.ext (.t 31) 1),
  .op (some 9) (.mv (.t 36)),
  .op (some 10) (.mv (.t 37))])
 (.seq (.seq (.reg [.op (some 38) (.mv (.t 9)),
  .op (some 39) (.mv (.t 6)),
  .op (some 40) (.call (.v (.lit (.func (.func 24) #[] #[]))) [(.t 38), (.t 39)]),
  .op (some 41) (.un .not (.t 40)),
  .op (some 42) (.mv (.t 41)),
  .grp 42 false [((some 43), (.mv (.t 10))), ((some 44), (.mv (.t 7))), ((some 45), (.binB true (.t 43) (.t 44)))],
  .op (some 46) (.pick (.t 42) (.v (.lit (.bool true))) (.t 45))])
 (.cond (.t 46)
 (.seq (.reg [.op (some 4) (.mv (.v (.lit (.bool false))))])
 .ret)
 .skip))
 (.seq (.seq (.reg [.op (some 47) (.mv (.t 8)),
  .op (some 48) (.mv (.t 1)),
  .op (some 49) (.call (.v (.lit (.func (.func 15) #[] #[]))) [(.t 48)]),
  .op (some 50) (.call (.v (.lit (.func (.func 18) #[] #[]))) [(.t 47), (.t 49)]),
  .op (some 51) (.un .not (.t 50))])
 (.cond (.t 51)
 (.seq (.reg [.op (some 4) (.mv (.v (.lit (.bool false))))])
 .ret)
 .skip))
 (.seq (.reg [.op (some 11) (.mv (.v (.lit (.int .i64 (1)))))])
 (.seq (.reg [.op (some 52) (.mv (.t 8)),
  .op (some 53) (.mv (.t 11)),
  .op (some 54) (.call (.v (.lit (.func (.func 19) #[] #[]))) [(.t 52), (.t 53)]),
  .op (some 11) (.mv (.t 54))])
 (.seq (.seq (.reg [.op (some 55) (.mv (.t 11)),
  .op (some 56) (.binI .lss (.t 55) (.v (.lit (.int .i64 (0))))),
  .op (some 57) (.mv (.t 56)),
  .grp 57 false [((some 58), (.mv (.t 9))), ((some 59), (.mv (.t 6))), ((some 60), (.call (.v (.lit (.func (.func 24) #[] #[]))) [(.t 58), (.t 59)])), ((some 61), (.un .not (.t 60)))],
  .op (some 62) (.pick (.t 57) (.v (.lit (.bool true))) (.t 61)),
  .op (some 63) (.mv (.t 62)),
  .grp 63 false [((some 64), (.mv (.t 10))), ((some 65), (.mv (.t 7))), ((some 66), (.binB true (.t 64) (.t 65)))],
  .op (some 67) (.pick (.t 63) (.v (.lit (.bool true))) (.t 66))])
 (.cond (.t 67)
 (.seq (.reg [.op (some 4) (.mv (.v (.lit (.bool false))))])
 .ret)
 .skip))
 (.seq (.reg [.op (some 12) (.mv (.v (.lit (.int .i64 (1)))))])
 (.seq (.reg [.op (some 68) (.mv (.t 9)),
  .op (some 69) (.mv (.t 12)),
  .op (some 70) (.call (.v (.lit (.func (.func 25) #[] #[]))) [(.t 68), (.t 69)]),
  .op (some 12) (.mv (.t 70))])
 (.seq (.reg [.op (some 13) (.mv (.v (.lit (.int .i64 (1)))))])
 (.seq (.reg [.op (some 71) (.mv (.t 9)),
  .op (some 72) (.mv (.t 13)),
  .op (some 73) (.call (.v (.lit (.func (.func 26) #[] #[]))) [(.t 71), (.t 72)]),
  .op (some 13) (.mv (.t 73))])
 (.seq (.seq (.reg [.op (some 74) (.mv (.t 13)),
  .op (some 75) (.binI .lss (.t 74) (.v (.lit (.int .i64 (0)))))])
 (.cond (.t 75)
 (.seq (.reg [.op (some 4) (.mv (.v (.lit (.bool false))))])
 .ret)
 .skip))
 (.seq (.seq (.reg [.op (some 76) (.mv (.t 13)),
  .op (some 77) (.mv (.t 12)),
  .op (some 78) (.binI .neq (.t 76) (.t 77))])
 (.cond (.t 78)
 (.seq (.reg [.op (some 4) (.mv (.v (.lit (.bool false))))])
 .ret)
 .skip))
 (.seq (.reg [.op (some 80) (.load 36 true (.t 2)),
  .op (some 81) (.call (.v (.lit (.func (.func 30) #[] #[]))) [(.t 80)]),
  .op (some 82) (.mv (.t 1)),
  .op (some 83) (.call (.v (.lit (.func (.func 15) #[] #[]))) [(.t 82)]),
  .op (some 84) (.call (.v (.lit (.func (.func 38) #[] #[]))) [(.t 81), (.t 83)]),
  .op (some 79) (.mv (.t 84)),
  .op (some 85) (.ext (.t 79) 0),
  .op (some 86) (.ext (.t 79) 1),
  .op (some 14) (.mv (.t 85)),
  .op (some 15) (.mv (.t 86))])
 (.seq (.seq (.reg [.op (some 87) (.mv (.t 14)),
  .op (some 88) (.mv (.t 6)),
  .op (some 89) (.call (.v (.lit (.func (.func 24) #[] #[]))) [(.t 87), (.t 88)]),
  .op (some 90) (.un .not (.t 89)),
  .op (some 91) (.mv (.t 90)),
  .grp 91 false [((some 92), (.mv (.t 15))), ((some 93), (.mv (.t 7))), ((some 94), (.binB true (.t 92) (.t 93)))],
  .op (some 95) (.pick (.t 91) (.v (.lit (.bool true))) (.t 94))])
 (.cond (.t 95)
 (.seq (.reg [.op (some 4) (.mv (.v (.lit (.bool false))))])
 .ret)
 .skip))
 (.seq (.reg [.op (some 13) (.mv (.v (.lit (.int .i64 (1)))))])
 (.seq (.reg [.op (some 96) (.mv (.t 9)),
  .op (some 97) (.mv (.t 13)),
  .op (some 98) (.call (.v (.lit (.func (.func 26) #[] #[]))) [(.t 96), (.t 97)]),
  .op (some 13) (.mv (.t 98))])
 (.seq (.seq (.reg [.op (some 99) (.mv (.t 13)),
  .op (some 100) (.binI .lss (.t 99) (.v (.lit (.int .i64 (0)))))])
 (.cond (.t 100)
 (.seq (.reg [.op (some 4) (.mv (.v (.lit (.bool false))))])
 .ret)
 .skip))
 (.seq (.seq (.reg [.op (some 101) (.mv (.t 13)),
  .op (some 102) (.mv (.t 12)),
  .op (some 103) (.binI .neq (.t 101) (.t 102))])
 (.cond (.t 103)
 (.seq (.reg [.op (some 4) (.mv (.v (.lit (.bool false))))])
 .ret)
 .skip))
 (.seq (.reg [.op (some 4) (.mv (.v (.lit (.bool true))))])
 .ret)))))))))))))))))))))))))
def rs9 : List RR := [.tmp 4]
def cut9 : Nat → Nat := fun id => 0
theorem k9 : (Try.f9.body.bind fun c => comp Try.prog Try.f9.ntmps cut9 c) = some r9 := by kernel_rfl
theorem by9 {W0 : World} {σ : List Blk} {args : List AV} {K : Cont} (hn : args.length ≤ 104) (h : rW Try.prog W0 σ.length r9 (initFr args) σ (finP W0 rs9 σ.length K)) : ACall Try.prog W0 9 args σ K :=
  ACall.introR mixed Try.func9 (by kernel_rfl) k9 (by kernel_rfl) hn h
def r10 : RC := (.seq (.reg [.op (some 2) (.mv (.v (.lit (.bool false))))])
 (.seq (.reg [.op (some 3) (.mv (.v (.lit (.int .i64 (1048576)))))])
 (.seq (.reg [.op (some 14) (.mv (.t 0)),
  .op (some 15) (.mv (.t 3)),
  .op (some 16) (.call (.v (.lit (.func (.func 13) #[] #[]))) [(.t 14), (.t 15)]),
  .op (some 3) (.mv (.t 16))])
 (.seq (.seq (.reg [.op (some 17) (.mv (.t 3)),
  .op (some 18) (.binI .lss (.t 17) (.v (.lit (.int .i64 (0)))))])
 (.cond (.t 18)
 (.seq (.reg [.op (some 2) (.mv (.v (.lit (.bool true))))])
 .ret)
 .skip))
 (.seq (.reg [.op (some 20) (.mv (.t 0)),
  .op (some 21) (.call (.v (.lit (.func (.func 15) #[] #[]))) [(.t 20)]),
  .op (some 22) (.call (.v (.lit (.func (.func 39) #[] #[]))) [(.t 21)]),
  .op (some 19) (.mv (.t 22)),
  .op (some 23) (.ext (.t 19) 0),
  .op (some 24) (.ext (.t 19) 1),
  .op (some 4) (.mv (.t 23)),
  .op (some 5) (.mv (.t 24))])
 (.seq (.reg [.op (some 25) (.mv (.t 0)),
  .op (some 26) (.call (.v (.lit (.func (.func 15) #[] #[]))) [(.t 25)]),
  .op (some 6) (.mv (.t 26))])
 (.seq (.reg [.op (some 28) (.mv (.t 6)),
  .op (some 29) (.call (.v (.lit (.func (.func 40) #[] #[]))) [(.t 28)]),
  .op (some 27) (.mv (.t 29)),
  .op (some 30) (.ext (.t 27) 0),
  .op (some 31) (.ext (.t 27) 1),
  .op (some 7) (.mv (.t 30)),
  .op (some 8) (.mv (.t 31))])
 (.seq (.seq (.reg [.op (some 32) (.mv (.t 7)),
  .op (some 33) (.mv (.t 4)),
  .op (some 34) (.call (.v (.lit (.func (.func 24) #[] #[]))) [(.t 32), (.t 33)]),
  .op (some 35) (.un .not (.t 34)),
  .op (some 36) (.mv (.t 35)),
  .grp 36 false [((some 37), (.mv (.t 8))), ((some 38), (.mv (.t 5))), ((some 39), (.binB true (.t 37) (.t 38)))],
  .op (some 40) (.pick (.t 36) (.v (.lit (.bool true))) (.t 39))])
 (.cond (.t 40)
 (.seq (.reg [.op (some 2) (.mv (.v (.lit (.bool false))))])
 .ret)
 .skip))
 (.seq (.seq (.reg [.op (some 41) (.mv (.t 6)),
  .op (some 42) (.mv (.t 0)),
  .op (some 43) (.call (.v (.lit (.func (.func 15) #[] #[]))) [(.t 42)]),
  .op (some 44) (.call (.v (.lit (.func (.func 18) #[] #[]))) [(.t 41), (.t 43)]),
  .op (some 45) (.un .not (.t 44))])
 (.cond (.t 45)
 (.seq (.reg [.op (some 2) (.mv (.v (.lit (.bool false))))])
 .ret)
 .skip))
 (.seq (.reg [.op (some 9) (.mv (.v (.lit (.int .i64 (1)))))])
 (.seq (.reg [.op (some 46) (.mv (.t 6)),
  .op (some 47) (.mv (.t 9)),
  .op (some 48) (.call (.v (.lit (.func (.func 19) #[] #[]))) [(.t 46), (.t 47)]),
  .op (some 9) (.mv (.t 48))])
 (.seq (.seq (.reg [.op (some 49) (.mv (.t 9)),
  .op (some 50) (.binI .lss (.t 49) (.v (.lit (.int .i64 (0))))),
  .op (some 51) (.mv (.t 50)),
  .grp 51 false [((some 52), (.mv (.t 7))), ((some 53), (.mv (.t 4))), ((some 54), (.call (.v (.lit (.func (.func 24) #[] #[]))) [(.t 52), (.t 53)])), ((some 55), (.un .not (.t 54)))],
  .op (some 56) (.pick (.t 51) (.v (.lit (.bool true))) (.t 55)),
  .op (some 57) (.mv (.t 56)),
  .grp 57 false [((some 58), (.mv (.t 8))), ((some 59), (.mv (.t 5))), ((some 60), (.binB true (.t 58) (.t 59)))],
  .op (some 61) (.pick (.t 57) (.v (.lit (.bool true))) (.t 60))])
 (.cond (.t 61)
 (.seq (.reg [.op (some 2) (.mv (.v (.lit (.bool false))))])
 .ret)
 .skip))
 (.seq (.reg [.op (some 10) (.mv (.v (.lit (.int .i64 (1)))))])
 (.seq (.reg [.op (some 62) (.mv (.t 7)),
  .op (some 63) (.mv (.t 10)),
  .op (some 64) (.call (.v (.lit (.func (.func 25) #[] #[]))) [(.t 62), (.t 63)]),
  .op (some 10) (.mv (.t 64))])
 (.seq (.reg [.op (some 11) (.mv (.v (.lit (.int .i64 (1)))))])
 (.seq (.reg [.op (some 65) (.mv (.t 7)),
  .op (some 66) (.mv (.t 11)),
  .op (some 67) (.call (.v (.lit (.func (.func 26) #[] #[]))) [(.t 65), (.t 66)]),
  .op (some 11) (.mv (.t 67))])
 (.seq (.seq (.reg [.op (some 68) (.mv (.t 11)),
  .op (some 69) (.binI .lss (.t 68) (.v (.lit (.int .i64 (0)))))])
 (.cond (.t 69)
 (.seq (.reg [.op (some 2) (.mv (.v (.lit (.bool false))))])
 .ret)
 .skip))
 (.seq (.seq (.reg [.op (some 70) (.mv (.t 11)),
  .op (some 71) (.mv (.t 10)),
  .op (some 72) (.binI .neq (.t 70) (.t 71))])
 (.cond (.t 72)
 (.seq (.reg [.op (some 2) (.mv (.v (.lit (.bool false))))])
 .ret)
 .skip))
 (.seq (.reg [.op (some 74) (.mv (.t 0)),
  .op (some 75) (.call (.v (.lit (.func (.func 15) #[] #[]))) [(.t 74)]),
  .op (some 76) (.call (.v (.lit (.func (.func 40) #[] #[]))) [(.t 75)]),
  .op (some 73) (.mv (.t 76)),
  .op (some 77) (.ext (.t 73) 0),
  .op (some 78) (.ext (.t 73) 1),
  .op (some 12) (.mv (.t 77)),
  .op (some 13) (.mv (.t 78))])
 (.seq (.seq (.reg [.op (some 79) (.mv (.t 12)),
  .op (some 80) (.mv (.t 4)),
  .op (some 81) (.call (.v (.lit (.func (.func 24) #[] #[]))) [(.t 79), (.t 80)]),
  .op (some 82) (.un .not (.t 81)),
  .op (some 83) (.mv (.t 82)),
  .grp 83 false [((some 84), (.mv (.t 13))), ((some 85), (.mv (.t 5))), ((some 86), (.binB true (.t 84) (.t 85)))],
  .op (some 87) (.pick (.t 83) (.v (.lit (.bool true))) (.t 86))])
 (.cond (.t 87)
 (.seq (.reg [.op (some 2) (.mv (.v (.lit (.bool false))))])
 .ret)
 .skip))
 (.seq (.reg [.op (some 11) (.mv (.v (.lit (.int .i64 (1)))))])
 (.seq (.reg [.op (some 88) (.mv (.t 7)),
  .op (some 89) (.mv (.t 11)),
  .op (some 90) (.call (.v (.lit (.func (.func 26) #[] #[]))) [(.t 88), (.t 89)]),
  .op (some 11) (.mv (.t 90))])
 (.seq (.seq (.reg [.op (some 91) (.mv (.t 11)),
  .op (some 92) (.binI .lss (.t 91) (.v (.lit (.int .i64 (0)))))])
 (.cond (.t 92)
 (.seq (.reg [.op (some 2) (.mv (.v (.lit (.bool false))))])
 .ret)
 .skip))
 (.seq (.seq (.reg [.op (some 93) (.mv (.t 11)),
  .op (some 94) (.mv (.t 10)),
  .op (some 95) (.binI .neq (.t 93) (.t 94))])
 (.cond (.t 95)
 (.seq (.reg [.op (some 2) (.mv (.v (.lit (.bool false))))])
 .ret)
 .skip))
 (.seq (.reg [.op (some 2) (.mv (.v (.lit (.bool true))))])
 .ret)))))))))))))))))))))))))
def rs10 : List RR := [.tmp 2]
def cut10 : Nat → Nat := fun id => 0
theorem k10 : (Try.f10.body.bind fun c => comp Try.prog Try.f10.ntmps cut10 c) = some r10 := by kernel_rfl
theorem by10 {W0 : World} {σ : List Blk} {args : List AV} {K : Cont} (hn : args.length ≤ 96) (h : rW Try.prog W0 σ.length r10 (initFr args) σ (finP W0 rs10 σ.length K)) : ACall Try.prog W0 10 args σ K :=
  ACall.introR mixed Try.func10 (by kernel_rfl) k10 (by kernel_rfl) hn h
def r11 : RC := (.seq (.reg [.op (some 2) (.box 56 (.t 0)),
  .op (some 3) (.box 58 (.t 1)),
  .op (some 4) (.mv (.v (.lit (.bool false))))])
 (.seq (.draw [((some 10), (.load 14 true (.t 2))), ((some 11), (.call (.v (.lit (.func (.func 42) #[] #[]))) [(.t 10)])), ((some 12), (.load 3 true (.t 3))), ((some 13), (.call (.v (.lit (.func (.func 43) #[] #[]))) [(.t 12)])), ((some 14), (.call (.v (.lit (.func (.func 41) #[] #[]))) [(.t 11), (.t 13)])), ((some 9), (.mv (.t 14))), ((some 15), (.ext (.t 9) 0)), ((some 16), (.ext (.t 9) 1))] [((some 5), (.alloc 61 (List.replicate 14 (.lit (.int .i64 (0)))))), (none, (.store 14 (.t 5) (.t 15))), ((some 6), (.mv (.t 16)))])
 (.seq (.draw [((some 18), (.load 14 true (.t 2))), ((some 19), (.call (.v (.lit (.func (.func 42) #[] #[]))) [(.t 18)])), ((some 20), (.load 3 true (.t 3))), ((some 21), (.call (.v (.lit (.func (.func 43) #[] #[]))) [(.t 20)])), ((some 22), (.call (.v (.lit (.func (.func 44) #[] #[]))) [(.t 19), (.t 21)])), ((some 17), (.mv (.t 22))), ((some 23), (.ext (.t 17) 0)), ((some 24), (.ext (.t 17) 1))] [((some 7), (.alloc 61 (List.replicate 14 (.lit (.int .i64 (0)))))), (none, (.store 14 (.t 7) (.t 23))), ((some 8), (.mv (.t 24)))])
 (.seq (.seq (.reg [.op (some 25) (.load 14 true (.t 7)),
  .op (some 26) (.load 14 true (.t 5)),
  .op (some 27) (.call (.v (.lit (.func (.func 45) #[] #[]))) [(.t 25), (.t 26)]),
  .op (some 28) (.un .not (.t 27)),
  .op (some 29) (.mv (.t 28)),
  .grp 29 false [((some 30), (.mv (.t 8))), ((some 31), (.mv (.t 6))), ((some 32), (.binB true (.t 30) (.t 31)))],
  .op (some 33) (.pick (.t 29) (.v (.lit (.bool true))) (.t 32))])
 (.cond (.t 33)
 (.seq (.reg [.op (some 4) (.mv (.v (.lit (.bool false))))])
 .ret)
 .skip))
 (.seq (.reg [.op (some 4) (.mv (.v (.lit (.bool true))))])
 .ret)))))
def rs11 : List RR := [.tmp 4]
def cut11 : Nat → Nat := fun id => if id = 1 then 17 else if id = 2 then 17 else 0
theorem k11 : (Try.f11.body.bind fun c => comp Try.prog Try.f11.ntmps cut11 c) = some r11 := by kernel_rfl
theorem by11 {W0 : World} {σ : List Blk} {args : List AV} {K : Cont} (hn : args.length ≤ 34) (h : rW Try.prog W0 σ.length r11 (initFr args) σ (finP W0 rs11 σ.length K)) : ACall Try.prog W0 11 args σ K :=
  ACall.introR mixed Try.func11 (by kernel_rfl) k11 (by kernel_rfl) hn h
def r12 : RC := (.seq (.reg [.op (some 2) (.box 56 (.t 0)),
  .op (some 4) (.mv (.v (.lit (.bool false))))])
 (.seq (.reg [.op (some 5) (.mv (.v (.lit (.int .i64 (1048576)))))])
 (.seq (.reg [.op (some 13) (.mv (.t 1)),
  .op (some 14) (.mv (.t 5)),
  .op (some 15) (.call (.v (.lit (.func (.func 46) #[] #[]))) [(.t 13), (.t 14)]),
  .op (some 5) (.mv (.t 15))])
 (.seq (.seq (.reg [.op (some 16) (.mv (.t 5)),
  .op (some 17) (.binI .lss (.t 16) (.v (.lit (.int .i64 (0)))))])
 (.cond (.t 17)
 (.seq (.reg [.op (some 4) (.mv (.v (.lit (.bool true))))])
 .ret)
 .skip))
 (.seq (.reg [.op (some 19) (.load 14 true (.t 2)),
  .op (some 20) (.call (.v (.lit (.func (.func 42) #[] #[]))) [(.t 19)]),
  .op (some 21) (.mv (.t 1)),
  .op (some 22) (.call (.v (.lit (.func (.func 48) #[] #[]))) [(.t 21)]),
  .op (some 23) (.call (.v (.lit (.func (.func 47) #[] #[]))) [(.t 20), (.t 22)]),
  .op (some 18) (.mv (.t 23)),
  .op (some 24) (.ext (.t 18) 0),
  .op (some 25) (.ext (.t 18) 1),
  .op (some 26) (.ext (.t 18) 2),
  .op (some 6) (.alloc 61 (List.replicate 14 (.lit (.int .i64 (0))))),
  .op none (.store 14 (.t 6) (.t 24)),
  .op (some 7) (.mv (.t 25)),
  .op (some 8) (.mv (.t 26))])
 (.seq (.reg [.op (some 27) (.mv (.t 1)),
  .op (some 28) (.call (.v (.lit (.func (.func 48) #[] #[]))) [(.t 27)]),
  .op (some 9) (.mv (.t 28))])
 (.seq (.reg [.op (some 30) (.load 14 true (.t 2)),
  .op (some 31) (.call (.v (.lit (.func (.func 42) #[] #[]))) [(.t 30)]),
  .op (some 32) (.mv (.t 9)),
  .op (some 33) (.call (.v (.lit (.func (.func 49) #[] #[]))) [(.t 31), (.t 32)]),
  .op (some 29) (.mv (.t 33)),
  .op (some 34) (.ext (.t 29) 0),
  .op (some 35) (.ext (.t 29) 1),
  .op (some 36) (.ext (.t 29) 2),
  .op (some 10) (.alloc 61 (List.replicate 14 (.lit (.int .i64 (0))))),
  .op none (.store 14 (.t 10) (.t 34)),
  .op (some 11) (.mv (.t 35)),
  .op (some 12) (.mv (.t 36))])
 (.seq (.seq (.reg [.op (some 37) (.load 14 true (.t 10)),
  .op (some 38) (.load 14 true (.t 6)),
  .op (some 39) (.call (.v (.lit (.func (.func 45) #[] #[]))) [(.t 37), (.t 38)]),
  .op (some 40) (.un .not (.t 39)),
  .op (some 41) (.mv (.t 40)),
  .grp 41 false [((some 42), (.mv (.t 11))), ((some 43), (.mv (.t 7))), ((some 44), (.binI .neq (.t 42) (.t 43)))],
  .op (some 45) (.pick (.t 41) (.v (.lit (.bool true))) (.t 44)),
  .op (some 46) (.mv (.t 45)),
  .grp 46 false [((some 47), (.mv (.t 12))), ((some 48), (.mv (.t 8))), ((some 49), (.binB true (.t 47) (.t 48)))],
  .op (some 50) (.pick (.t 46) (.v (.lit (.bool true))) (.t 49))])
 (.cond (.t 50)
 (.seq (.reg [.op (some 4) (.mv (.v (.lit (.bool false))))])
 .ret)
 .skip))
 (.seq (.seq (.reg [.op (some 51) (.mv (.t 9)),
  .op (some 52) (.mv (.t 1)),
  .op (some 53) (.call (.v (.lit (.func (.func 48) #[] #[]))) [(.t 52)]),
  .op (some 54) (.call (.v (.lit (.func (.func 50) #[] #[]))) [(.t 51), (.t 53)]),
  .op (some 55) (.un .not (.t 54))])
 (.cond (.t 55)
 (.seq (.reg [.op (some 4) (.mv (.v (.lit (.bool false))))])
 .ret)
 .skip))
 (.seq (.reg [.op (some 4) (.mv (.v (.lit (.bool true))))])
 .ret))))))))))
def rs12 : List RR := [.tmp 4]
def cut12 : Nat → Nat := fun id => 0
theorem k12 : (Try.f12.body.bind fun c => comp Try.prog Try.f12.ntmps cut12 c) = some r12 := by kernel_rfl
theorem by12 {W0 : World} {σ : List Blk} {args : List AV} {K : Cont} (hn : args.length ≤ 56) (h : rW Try.prog W0 σ.length r12 (initFr args) σ (finP W0 rs12 σ.length K)) : ACall Try.prog W0 12 args σ K :=
  ACall.introR mixed Try.func12 (by kernel_rfl) k12 (by kernel_rfl) hn h
def r13 : RC := (.seq (.reg [.op (some 4) (.mv (.v (.lit (.int .i64 (0)))))])
 (.seq (.reg [.op (some 5) (.mv (.t 1)),
  .op (some 6) (.mv (.t 0)),
  .op (some 7) (.lenL (.t 6)),
  .op (some 8) (.binI .sub (.t 5) (.t 7)),
  .op (some 1) (.mv (.t 8))])
 (.seq (.seq (.reg [.op (some 9) (.mv (.t 1)),
  .op (some 10) (.binI .lss (.t 9) (.v (.lit (.int .i64 (0)))))])
 (.cond (.t 10)
 (.seq (.reg [.op (some 4) (.mv (.v (.lit (.int .i64 (-1)))))])
 .ret)
 .skip))
 (.seq (.reg [.op (some 11) (.mv (.t 1)),
  .op (some 4) (.mv (.t 11))])
 .ret))))
def rs13 : List RR := [.tmp 4]
def cut13 : Nat → Nat := fun id => 0
theorem k13 : (Try.f13.body.bind fun c => comp Try.prog Try.f13.ntmps cut13 c) = some r13 := by kernel_rfl
theorem by13 {W0 : World} {σ : List Blk} {args : List AV} {K : Cont} (hn : args.length ≤ 12) (h : rW Try.prog W0 σ.length r13 (initFr args) σ (finP W0 rs13 σ.length K)) : ACall Try.prog W0 13 args σ K :=
  ACall.introR mixed Try.func13 (by kernel_rfl) k13 (by kernel_rfl) hn h
def r14 : RC := (.seq (.reg [.op (some 2) (.mv (.v (.lit (.slice none 0 0)))),
  .op (some 3) (.mv (.v (.lit (.bool false))))])
 (.seq (.reg [.op (some 7) (.bslice 81 2 0 [(.lit (.int .i64 (0))), (.lit (.int .i64 (0)))] []),
  .op (some 4) (.mv (.t 7))])
 (.seq (.seq (.reg [.op (some 8) (.mv (.t 0)),
  .op (some 9) (.call (.v (.lit (.func (.func 51) #[] #[]))) [(.t 8)]),
  .op (some 10) (.un .not (.t 9))])
 (.cond (.t 10)
 (.seq (.reg [.op (some 11) (.mv (.t 4)),
  .op (some 2) (.mv (.t 11)),
  .op (some 3) (.mv (.v (.lit (.bool false))))])
 .ret)
 .skip))
 (.seq (.seq (.reg [.op (some 5) (.mv (.v (.lit (.int .i64 (0)))))])
 (.block 0 (.loop (.seq (.seq (.reg [.op (some 12) (.mv (.t 5)),
  .op (some 13) (.mv (.t 0)),
  .op (some 14) (.lenL (.t 13)),
  .op (some 15) (.binI .lss (.t 12) (.t 14))])
 (.cond (.t 15)
 .skip
 (.exit 0)))
 (.seq (.block 1 (.seq (.reg [.op (some 18) (.mv (.t 5)),
  .op (some 19) (.binI .add (.t 18) (.v (.lit (.int .i64 (1))))),
  .op (some 6) (.mv (.t 19))])
 (.block 2 (.loop (.seq (.seq (.reg [.op (some 20) (.mv (.t 6)),
  .op (some 21) (.mv (.t 0)),
  .op (some 22) (.lenL (.t 21)),
  .op (some 23) (.binI .lss (.t 20) (.t 22))])
 (.cond (.t 23)
 .skip
 (.exit 2)))
 (.seq (.block 3 (.seq (.draw [((some 26), (.mv (.t 0))), ((some 27), (.mv (.t 5))), ((some 28), (.iaddrS 9 (.t 26) (.t 27))), ((some 29), (.load 9 true (.t 28))), ((some 30), (.call (.v (.lit (.func (.func 54) #[] #[]))) [(.t 29)])), ((some 31), (.mv (.t 0))), ((some 32), (.mv (.t 6))), ((some 33), (.iaddrS 9 (.t 31) (.t 32))), ((some 34), (.load 9 true (.t 33))), ((some 35), (.call (.v (.lit (.func (.func 54) #[] #[]))) [(.t 34)])), ((some 36), (.call (.v (.lit (.func (.func 53) #[] #[]))) [(.t 30), (.t 35)])), ((some 37), (.call (.v (.lit (.func (.func 52) #[] #[]))) [(.t 36)])), ((some 38), (.binI .gtr (.t 37) (.v (.lit (.int .i64 (0))))))] [])
 (.cond (.t 38)
 (.reg [.op (some 39) (.mv (.t 4)),
  .op (some 40) (.mv (.t 5)),
  .op (some 41) (.mv (.t 6)),
  .op (some 42) (.build [(.lit (.int .i64 (0))), (.lit (.int .i64 (0)))] [((0, 1), (.t 40)), ((1, 1), (.t 41))]),
  .app (some 44) 43 81 2 16 (.t 39) 1 [(.lit (.int .i64 (0))), (.lit (.int .i64 (0)))] [(0, (.t 42))],
  .op (some 4) (.mv (.t 44))])
 .skip)))
 (.reg [.op (some 24) (.mv (.t 6)),
  .op (some 25) (.binI .add (.t 24) (.v (.lit (.int .i64 (1))))),
  .op (some 6) (.mv (.t 25))])))))))
 (.reg [.op (some 16) (.mv (.t 5)),
  .op (some 17) (.binI .add (.t 16) (.v (.lit (.int .i64 (1))))),
  .op (some 5) (.mv (.t 17))]))))))
 (.seq (.reg [.op (some 45) (.mv (.t 4)),
  .op (some 2) (.mv (.t 45)),
  .op (some 3) (.mv (.v (.lit (.bool true))))])
 .ret)))))
def rs14 : List RR := [.tmp 2, .tmp 3]
def cut14 : Nat → Nat := fun id => if id = 10 then 27 else 0
theorem k14 : (Try.f14.body.bind fun c => comp Try.prog Try.f14.ntmps cut14 c) = some r14 := by kernel_rfl
theorem by14 {W0 : World} {σ : List Blk} {args : List AV} {K : Cont} (hn : args.length ≤ 46) (h : rW Try.prog W0 σ.length r14 (initFr args) σ (finP W0 rs14 σ.length K)) : ACall Try.prog W0 14 args σ K :=
  ACall.introR mixed Try.func14 (by kernel_rfl) k14 (by kernel_rfl) hn h
def r15 : RC := (.seq (.reg [.op (some 2) (.mv (.v (.lit (.slice none 0 0))))])
 (.seq (.reg [.op (some 5) (.mv (.t 0)),
  .op (some 6) (.lenL (.t 5)),
  .op (some 7) (.mkslice 83 9 72 (List.replicate 9 (.lit (.int .i64 (0)))) (.t 6) (.t 6)),
  .op (some 3) (.mv (.t 7))])
 (.seq (.seq (.reg [.op (some 4) (.mv (.v (.lit (.int .i64 (0)))))])
 (.block 0 (.loop (.seq (.seq (.reg [.op (some 8) (.mv (.t 4)),
  .op (some 9) (.mv (.t 0)),
  .op (some 10) (.lenL (.t 9)),
  .op (some 11) (.binI .lss (.t 8) (.t 10))])
 (.cond (.t 11)
 .skip
 (.exit 0)))
 (.seq (.block 1 (.reg [.op (some 14) (.mv (.t 3)),
  .op (some 15) (.mv (.t 4)),
  .op (some 16) (.mv (.t 0)),
  .op (some 17) (.mv (.t 4)),
  .op (some 18) (.iaddrS 9 (.t 16) (.t 17)),
  .op (some 19) (.load 9 true (.t 18)),
  .op (some 20) (.call (.v (.lit (.func (.func 55) #[] #[]))) [(.t 19)]),
  .op (some 21) (.iaddrS 9 (.t 14) (.t 15)),
  .op none (.store 9 (.t 21) (.t 20))]))
 (.reg [.op (some 12) (.mv (.t 4)),
  .op (some 13) (.binI .add (.t 12) (.v (.lit (.int .i64 (1))))),
  .op (some 4) (.mv (.t 13))]))))))
 (.seq (.reg [.op (some 22) (.mv (.t 3)),
  .op (some 2) (.mv (.t 22))])
 .ret))))
def rs15 : List RR := [.tmp 2]
def cut15 : Nat → Nat := fun id => 0
theorem k15 : (Try.f15.body.bind fun c => comp Try.prog Try.f15.ntmps cut15 c) = some r15 := by kernel_rfl
theorem by15 {W0 : World} {σ : List Blk} {args : List AV} {K : Cont} (hn : args.length ≤ 23) (h : rW Try.prog W0 σ.length r15 (initFr args) σ (finP W0 rs15 σ.length K)) : ACall Try.prog W0 15 args σ K :=
  ACall.introR mixed Try.func15 (by kernel_rfl) k15 (by kernel_rfl) hn h
def r16 : RC := (.seq (.reg [.op (some 2) (.mv (.v (.lit (.slice none 0 0)))),
  .op (some 3) (.mv (.v (.lit (.bool false))))])
 (.seq (.reg [.op (some 10) (.mv (.t 0)),
  .op (some 11) (.call (.v (.lit (.func (.func 56) #[] #[]))) [(.t 10)]),
  .op (some 9) (.mv (.t 11)),
  .op (some 12) (.ext (.t 9) 0),
  .op (some 13) (.ext (.t 9) 1),
  .op (some 4) (.mv (.t 12)),
  .op (some 5) (.mv (.t 13))])
 (.seq (.seq (.reg [.op (some 14) (.mv (.t 5)),
  .op (some 15) (.un .not (.t 14))])
 (.cond (.t 15)
 (.seq (.reg [.op (some 2) (.mv (.v (.lit (.slice none 0 0)))),
  .op (some 3) (.mv (.v (.lit (.bool false))))])
 .ret)
 .skip))
 (.seq (.reg [.op (some 16) (.bslice 81 2 0 [(.lit (.int .i64 (0))), (.lit (.int .i64 (0)))] []),
  .op (some 6) (.mv (.t 16))])
 (.seq (.seq (.reg [.op (some 17) (.mv (.t 4)),
  .op (some 18) (.lenL (.t 17)),
  .op (some 19) (.mv (.v (.lit (.int .i64 (0)))))])
 (.block 0 (.loop (.seq (.reg [.op (some 20) (.binI .lss (.t 19) (.t 18))])
 (.seq (.cond (.t 20)
 .skip
 (.exit 0))
 (.seq (.block 1 (.seq (.reg [.op (some 21) (.mv (.t 19)),
  .op (some 7) (.mv (.t 21))])
 (.seq (.reg [.op (some 22) (.mv (.t 7)),
  .op (some 23) (.binI .add (.t 22) (.v (.lit (.int .i64 (1))))),
  .op (some 8) (.mv (.t 23))])
 (.block 2 (.loop (.seq (.seq (.reg [.op (some 24) (.mv (.t 8)),
  .op (some 25) (.mv (.t 4)),
  .op (some 26) (.lenL (.t 25)),
  .op (some 27) (.binI .lss (.t 24) (.t 26))])
 (.cond (.t 27)
 .skip
 (.exit 2)))
 (.seq (.block 3 (.seq (.draw [((some 30), (.mv (.t 4))), ((some 31), (.mv (.t 7))), ((some 32), (.iaddrS 2 (.t 30) (.t 31))), ((some 33), (.faddr 0 (.t 32))), ((some 34), (.load 1 false (.t 33))), ((some 35), (.mv (.t 4))), ((some 36), (.mv (.t 8))), ((some 37), (.iaddrS 2 (.t 35) (.t 36))), ((some 38), (.faddr 0 (.t 37))), ((some 39), (.load 1 false (.t 38))), ((some 40), (.binI .and (.t 34) (.t 39))), ((some 41), (.binI .neq (.t 40) (.v (.lit (.int .u64 (0))))))] [])
 (.cond (.t 41)
 (.reg [.op (some 42) (.mv (.t 6)),
  .op (some 43) (.mv (.t 7)),
  .op (some 44) (.mv (.t 8)),
  .op (some 45) (.build [(.lit (.int .i64 (0))), (.lit (.int .i64 (0)))] [((0, 1), (.t 43)), ((1, 1), (.t 44))]),
  .app (some 47) 46 81 2 16 (.t 42) 1 [(.lit (.int .i64 (0))), (.lit (.int .i64 (0)))] [(0, (.t 45))],
  .op (some 6) (.mv (.t 47))])
 .skip)))
 (.reg [.op (some 28) (.mv (.t 8)),
  .op (some 29) (.binI .add (.t 28) (.v (.lit (.int .i64 (1))))),
  .op (some 8) (.mv (.t 29))]))))))))
 (.reg [.op (some 48) (.binI .add (.t 19) (.v (.lit (.int .i64 (1))))),
  .op (some 19) (.mv (.t 48))])))))))
 (.seq (.reg [.op (some 49) (.mv (.t 6)),
  .op (some 2) (.mv (.t 49)),
  .op (some 3) (.mv (.v (.lit (.bool true))))])
 .ret))))))
def rs16 : List RR := [.tmp 2, .tmp 3]
def cut16 : Nat → Nat := fun id => if id = 11 then 25 else 0
theorem k16 : (Try.f16.body.bind fun c => comp Try.prog Try.f16.ntmps cut16 c) = some r16 := by kernel_rfl
theorem by16 {W0 : World} {σ : List Blk} {args : List AV} {K : Cont} (hn : args.length ≤ 50) (h : rW Try.prog W0 σ.length r16 (initFr args) σ (finP W0 rs16 σ.length K)) : ACall Try.prog W0 16 args σ K :=
  ACall.introR mixed Try.func16 (by kernel_rfl) k16 (by kernel_rfl) hn h
def r17 : RC := (.seq (.reg [.op (some 4) (.mv (.v (.lit (.bool false))))])
 (.seq (.seq (.reg [.op (some 6) (.mv (.t 0)),
  .op (some 7) (.lenL (.t 6)),
  .op (some 8) (.mv (.t 1)),
  .op (some 9) (.lenL (.t 8)),
  .op (some 10) (.binI .neq (.t 7) (.t 9))])
 (.cond (.t 10)
 (.seq (.reg [.op (some 4) (.mv (.v (.lit (.bool false))))])
 .ret)
 .skip))
 (.seq (.seq (.reg [.op (some 5) (.mv (.v (.lit (.int .i64 (0)))))])
 (.block 0 (.loop (.seq (.seq (.reg [.op (some 11) (.mv (.t 5)),
  .op (some 12) (.mv (.t 0)),
  .op (some 13) (.lenL (.t 12)),
  .op (some 14) (.binI .lss (.t 11) (.t 13))])
 (.cond (.t 14)
 .skip
 (.exit 0)))
 (.seq (.block 1 (.seq (.draw [((some 17), (.mv (.t 0))), ((some 18), (.mv (.t 5))), ((some 19), (.iaddrS 2 (.t 17) (.t 18))), ((some 20), (.load 2 true (.t 19))), ((some 21), (.mv (.t 1))), ((some 22), (.mv (.t 5))), ((some 23), (.iaddrS 2 (.t 21) (.t 22))), ((some 24), (.load 2 true (.t 23))), ((some 25), (.call (.v (.lit (.func (.func 57) #[] #[]))) [(.t 20), (.t 24)])), ((some 26), (.un .not (.t 25)))] [])
 (.cond (.t 26)
 (.seq (.reg [.op (some 4) (.mv (.v (.lit (.bool false))))])
 .ret)
 .skip)))
 (.reg [.op (some 15) (.mv (.t 5)),
  .op (some 16) (.binI .add (.t 15) (.v (.lit (.int .i64 (1))))),
  .op (some 5) (.mv (.t 16))]))))))
 (.seq (.reg [.op (some 4) (.mv (.v (.lit (.bool true))))])
 .ret))))
def rs17 : List RR := [.tmp 4]
def cut17 : Nat → Nat := fun id => if id = 6 then 21 else 0
theorem k17 : (Try.f17.body.bind fun c => comp Try.prog Try.f17.ntmps cut17 c) = some r17 := by kernel_rfl
theorem by17 {W0 : World} {σ : List Blk} {args : List AV} {K : Cont} (hn : args.length ≤ 27) (h : rW Try.prog W0 σ.length r17 (initFr args) σ (finP W0 rs17 σ.length K)) : ACall Try.prog W0 17 args σ K :=
  ACall.introR mixed Try.func17 (by kernel_rfl) k17 (by kernel_rfl) hn h
def r18 : RC := (.seq (.reg [.op (some 4) (.mv (.v (.lit (.bool false))))])
 (.seq (.seq (.reg [.op (some 6) (.mv (.t 0)),
  .op (some 7) (.lenL (.t 6)),
  .op (some 8) (.mv (.t 1)),
  .op (some 9) (.lenL (.t 8)),
  .op (some 10) (.binI .neq (.t 7) (.t 9))])
 (.cond (.t 10)
 (.seq (.reg [.op (some 4) (.mv (.v (.lit (.bool false))))])
 .ret)
 .skip))
 (.seq (.seq (.reg [.op (some 5) (.mv (.v (.lit (.int .i64 (0)))))])
 (.block 0 (.loop (.seq (.seq (.reg [.op (some 11) (.mv (.t 5)),
  .op (some 12) (.mv (.t 0)),
  .op (some 13) (.lenL (.t 12)),
  .op (some 14) (.binI .lss (.t 11) (.t 13))])
 (.cond (.t 14)
 .skip
 (.exit 0)))
 (.seq (.block 1 (.seq (.draw [((some 17), (.mv (.t 0))), ((some 18), (.mv (.t 5))), ((some 19), (.iaddrS 9 (.t 17) (.t 18))), ((some 20), (.load 9 true (.t 19))), ((some 21), (.mv (.t 1))), ((some 22), (.mv (.t 5))), ((some 23), (.iaddrS 9 (.t 21) (.t 22))), ((some 24), (.load 9 true (.t 23))), ((some 25), (.call (.v (.lit (.func (.func 58) #[] #[]))) [(.t 20), (.t 24)])), ((some 26), (.un .not (.t 25)))] [])
 (.cond (.t 26)
 (.seq (.reg [.op (some 4) (.mv (.v (.lit (.bool false))))])
 .ret)
 .skip)))
 (.reg [.op (some 15) (.mv (.t 5)),
  .op (some 16) (.binI .add (.t 15) (.v (.lit (.int .i64 (1))))),
  .op (some 5) (.mv (.t 16))]))))))
 (.seq (.reg [.op (some 4) (.mv (.v (.lit (.bool true))))])
 .ret))))
def rs18 : List RR := [.tmp 4]
def cut18 : Nat → Nat := fun id => if id = 6 then 21 else 0
theorem k18 : (Try.f18.body.bind fun c => comp Try.prog Try.f18.ntmps cut18 c) = some r18 := by kernel_rfl
theorem by18 {W0 : World} {σ : List Blk} {args : List AV} {K : Cont} (hn : args.length ≤ 27) (h : rW Try.prog W0 σ.length r18 (initFr args) σ (finP W0 rs18 σ.length K)) : ACall Try.prog W0 18 args σ K :=
  ACall.introR mixed Try.func18 (by kernel_rfl) k18 (by kernel_rfl) hn h
def r19 : RC := (.seq (.reg [.op (some 4) (.mv (.v (.lit (.int .i64 (0)))))])
 (.seq (.seq (.reg [.op (some 5) (.mv (.v (.lit (.int .i64 (0)))))])
 (.block 0 (.loop (.seq (.seq (.reg [.op (some 8) (.mv (.t 5)),
  .op (some 9) (.mv (.t 0)),
  .op (some 10) (.lenL (.t 9)),
  .op (some 11) (.binI .lss (.t 8) (.t 10))])
 (.cond (.t 11)
 .skip
 (.exit 0)))
 (.seq (.block 1 (.seq (.reg [.op (some 14) (.mv (.t 0)),
  .op (some 15) (.mv (.t 5)),
  .op (some 16) (.mv (.t 1)),
  .op (some 17) (.iaddrS 9 (.t 14) (.t 15)),
  .op (some 18) (.faddr 0 (.t 17)),
  .op none (.store 1 (.t 18) (.t 16))])
 (.seq (.reg [.op (some 19) (.mv (.t 1)),
  .op (some 20) (.binI .add (.t 19) (.v (.lit (.int .i64 (1))))),
  .op (some 1) (.mv (.t 20))])
 (.seq (.seq (.reg [.op (some 6) (.mv (.v (.lit (.int .i64 (0)))))])
 (.block 2 (.loop (.seq (.seq (.reg [.op (some 21) (.mv (.t 6)),
  .op (some 22) (.binI .lss (.t 21) (.v (.lit (.int .i64 (6)))))])
 (.cond (.t 22)
 .skip
 (.exit 2)))
 (.seq (.block 3 (.seq (.reg [.op (some 25) (.mv (.t 0)),
  .op (some 26) (.mv (.t 5)),
  .op (some 27) (.mv (.t 6)),
  .op (some 28) (.mv (.t 1)),
  .op (some 29) (.iaddrS 9 (.t 25) (.t 26)),
  .op (some 30) (.faddr 1 (.t 29)),
  .op (some 31) (.faddr 0 (.t 30)),
  .op (some 32) (.iaddrA 6 1 (.t 31) (.t 27)),
  .op none (.store 1 (.t 32) (.t 28))])
 (.reg [.op (some 33) (.mv (.t 1)),
  .op (some 34) (.binI .add (.t 33) (.v (.lit (.int .i64 (1))))),
  .op (some 1) (.mv (.t 34))])))
 (.reg [.op (some 23) (.mv (.t 6)),
  .op (some 24) (.binI .add (.t 23) (.v (.lit (.int .i64 (1))))),
  .op (some 6) (.mv (.t 24))]))))))
 (.seq (.reg [.op (some 7) (.mv (.v (.lit (.int .i64 (0)))))])
 (.block 4 (.loop (.seq (.seq (.reg [.op (some 35) (.mv (.t 7)),
  .op (some 36) (.binI .lss (.t 35) (.v (.lit (.int .i64 (2)))))])
 (.cond (.t 36)
 .skip
 (.exit 4)))
 (.seq (.block 5 (.seq (.reg [.op (some 39) (.mv (.t 0)),
  .op (some 40) (.mv (.t 5)),
  .op (some 41) (.mv (.t 7)),
  .op (some 42) (.mv (.t 1)),
  .op (some 43) (.iaddrS 9 (.t 39) (.t 40)),
  .op (some 44) (.faddr 7 (.t 43)),
  .op (some 45) (.iaddrA 2 1 (.t 44) (.t 41)),
  .op none (.store 1 (.t 45) (.t 42))])
 (.reg [.op (some 46) (.mv (.t 1)),
  .op (some 47) (.binI .add (.t 46) (.v (.lit (.int .i64 (1))))),
  .op (some 1) (.mv (.t 47))])))
 (.reg [.op (some 37) (.mv (.t 7)),
  .op (some 38) (.binI .add (.t 37) (.v (.lit (.int .i64 (1))))),
  .op (some 7) (.mv (.t 38))]))))))))))
 (.reg [.op (some 12) (.mv (.t 5)),
  .op (some 13) (.binI .add (.t 12) (.v (.lit (.int .i64 (1))))),
  .op (some 5) (.mv (.t 13))]))))))
 (.seq (.reg [.op (some 48) (.mv (.t 1)),
  .op (some 4) (.mv (.t 48))])
 .ret)))
def rs19 : List RR := [.tmp 4]
def cut19 : Nat → Nat := fun id => 0
theorem k19 : (Try.f19.body.bind fun c => comp Try.prog Try.f19.ntmps cut19 c) = some r19 := by kernel_rfl
theorem by19 {W0 : World} {σ : List Blk} {args : List AV} {K : Cont} (hn : args.length ≤ 49) (h : rW Try.prog W0 σ.length r19 (initFr args) σ (finP W0 rs19 σ.length K)) : ACall Try.prog W0 19 args σ K :=
  ACall.introR mixed Try.func19 (by kernel_rfl) k19 (by kernel_rfl) hn h
def r20 : RC := (.seq (.reg [.op (some 4) (.mv (.v (.lit (.int .i64 (0)))))])
 (.seq (.seq (.reg [.op (some 5) (.mv (.v (.lit (.int .i64 (0)))))])
 (.block 0 (.loop (.seq (.seq (.reg [.op (some 7) (.mv (.t 5)),
  .op (some 8) (.mv (.t 0)),
  .op (some 9) (.lenL (.t 8)),
  .op (some 10) (.binI .lss (.t 7) (.t 9))])
 (.cond (.t 10)
 .skip
 (.exit 0)))
 (.seq (.block 1 (.seq (.reg [.op (some 6) (.mv (.v (.lit (.int .i64 (0)))))])
 (.block 2 (.loop (.seq (.seq (.reg [.op (some 13) (.mv (.t 6)),
  .op (some 14) (.binI .lss (.t 13) (.v (.lit (.int .i64 (2)))))])
 (.cond (.t 14)
 .skip
 (.exit 2)))
 (.seq (.block 3 (.seq (.reg [.op (some 17) (.mv (.t 0)),
  .op (some 18) (.mv (.t 5)),
  .op (some 19) (.mv (.t 6)),
  .op (some 20) (.mv (.t 1)),
  .op (some 21) (.iaddrS 2 (.t 17) (.t 18)),
  .op (some 22) (.iaddrA 2 1 (.t 21) (.t 19)),
  .op none (.store 1 (.t 22) (.t 20))])
 (.reg [.op (some 23) (.mv (.t 1)),
  .op (some 24) (.binI .add (.t 23) (.v (.lit (.int .i64 (1))))),
  .op (some 1) (.mv (.t 24))])))
 (.reg [.op (some 15) (.mv (.t 6)),
  .op (some 16) (.binI .add (.t 15) (.v (.lit (.int .i64 (1))))),
  .op (some 6) (.mv (.t 16))])))))))
 (.reg [.op (some 11) (.mv (.t 5)),
  .op (some 12) (.binI .add (.t 11) (.v (.lit (.int .i64 (1))))),
  .op (some 5) (.mv (.t 12))]))))))
 (.seq (.reg [.op (some 25) (.mv (.t 1)),
  .op (some 4) (.mv (.t 25))])
 .ret)))
def rs20 : List RR := [.tmp 4]
def cut20 : Nat → Nat := fun id => 0
theorem k20 : (Try.f20.body.bind fun c => comp Try.prog Try.f20.ntmps cut20 c) = some r20 := by kernel_rfl
theorem by20 {W0 : World} {σ : List Blk} {args : List AV} {K : Cont} (hn : args.length ≤ 26) (h : rW Try.prog W0 σ.length r20 (initFr args) σ (finP W0 rs20 σ.length K)) : ACall Try.prog W0 20 args σ K :=
  ACall.introR mixed Try.func20 (by kernel_rfl) k20 (by kernel_rfl) hn h
def r21 : RC := (.seq (.reg [.op (some 4) (.mv (.v (.lit (.int .i64 (0)))))])
 (.seq (.seq (.reg [.op (some 5) (.mv (.v (.lit (.int .i64 (0)))))])
 (.block 0 (.loop (.seq (.seq (.reg [.op (some 7) (.mv (.t 5)),
  .op (some 8) (.mv (.t 0)),
  .op (some 9) (.lenL (.t 8)),
  .op (some 10) (.binI .lss (.t 7) (.t 9))])
 (.cond (.t 10)
 .skip
 (.exit 0)))
 (.seq (.block 1 (.seq (.reg [.op (some 6) (.mv (.v (.lit (.int .i64 (0)))))])
 (.block 2 (.loop (.seq (.seq (.reg [.op (some 13) (.mv (.t 6)),
  .op (some 14) (.binI .lss (.t 13) (.v (.lit (.int .i64 (2)))))])
 (.cond (.t 14)
 .skip
 (.exit 2)))
 (.seq (.block 3 (.seq (.seq (.reg [.op (some 17) (.mv (.t 0)),
  .op (some 18) (.mv (.t 5)),
  .op (some 19) (.mv (.t 6)),
  .op (some 20) (.iaddrS 2 (.t 17) (.t 18)),
  .op (some 21) (.iaddrA 2 1 (.t 20) (.t 19)),
  .op (some 22) (.load 1 false (.t 21)),
  .op (some 23) (.mv (.t 1)),
  .op (some 24) (.binI .neq (.t 22) (.t 23))])
 (.cond (.t 24)
 (.seq (.reg [.op (some 4) (.mv (.v (.lit (.int .i64 (-1)))))])
 .ret)
 .skip))
 (.reg [.op (some 25) (.mv (.t 1)),
  .op (some 26) (.binI .add (.t 25) (.v (.lit (.int .i64 (1))))),
  .op (some 1) (.mv (.t 26))])))
 (.reg [.op (some 15) (.mv (.t 6)),
  .op (some 16) (.binI .add (.t 15) (.v (.lit (.int .i64 (1))))),
  .op (some 6) (.mv (.t 16))])))))))
 (.reg [.op (some 11) (.mv (.t 5)),
  .op (some 12) (.binI .add (.t 11) (.v (.lit (.int .i64 (1))))),
  .op (some 5) (.mv (.t 12))]))))))
 (.seq (.reg [.op (some 27) (.mv (.t 1)),
  .op (some 4) (.mv (.t 27))])
 .ret)))
def rs21 : List RR := [.tmp 4]
def cut21 : Nat → Nat := fun id => 0
theorem k21 : (Try.f21.body.bind fun c => comp Try.prog Try.f21.ntmps cut21 c) = some r21 := by kernel_rfl
theorem by21 {W0 : World} {σ : List Blk} {args : List AV} {K : Cont} (hn : args.length ≤ 28) (h : rW Try.prog W0 σ.length r21 (initFr args) σ (finP W0 rs21 σ.length K)) : ACall Try.prog W0 21 args σ K :=
  ACall.introR mixed Try.func21 (by kernel_rfl) k21 (by kernel_rfl) hn h
def r22 : RC := (.seq (.reg [.op (some 2) (.mv (.v (.lit (.slice none 0 0)))),
  .op (some 3) (.mv (.v (.lit (.bool false))))])
 (.seq (.reg [.op (some 7) (.bslice 3 1 0 [(.lit (.int .i64 (0)))] []),
  .op (some 4) (.mv (.t 7))])
 (.seq (.seq (.reg [.op (some 8) (.mv (.t 0)),
  .op (some 9) (.call (.v (.lit (.func (.func 51) #[] #[]))) [(.t 8)]),
  .op (some 10) (.un .not (.t 9))])
 (.cond (.t 10)
 (.seq (.reg [.op (some 11) (.mv (.t 4)),
  .op (some 2) (.mv (.t 11)),
  .op (some 3) (.mv (.v (.lit (.bool false))))])
 .ret)
 .skip))
 (.seq (.reg [.op (some 12) (.mv (.t 0)),
  .op (some 13) (.call (.v (.lit (.func (.func 59) #[] #[]))) [(.t 12)]),
  .op (some 5) (.mv (.t 13))])
 (.seq (.seq (.reg [.op (some 6) (.mv (.v (.lit (.int .i64 (0)))))])
 (.block 0 (.loop (.seq (.seq (.reg [.op (some 14) (.mv (.t 6)),
  .op (some 15) (.mv (.t 0)),
  .op (some 16) (.lenL (.t 15)),
  .op (some 17) (.binI .lss (.t 14) (.t 16))])
 (.cond (.t 17)
 .skip
 (.exit 0)))
 (.seq (.block 1 (.seq (.draw [((some 20), (.mv (.t 5))), ((some 21), (.mv (.t 6))), ((some 22), (.iaddrS 6 (.t 20) (.t 21))), ((some 23), (.load 6 true (.t 22))), ((some 24), (.mv (.t 0))), ((some 25), (.mv (.t 6))), ((some 26), (.iaddrS 9 (.t 24) (.t 25))), ((some 27), (.load 9 true (.t 26))), ((some 28), (.call (.v (.lit (.func (.func 54) #[] #[]))) [(.t 27)])), ((some 29), (.eqA false [.int, .int, .int, .int, .int, .int] (.t 23) (.t 28)))] [])
 (.cond (.t 29)
 (.reg [.op (some 30) (.mv (.t 4)),
  .op (some 31) (.mv (.t 6)),
  .app (some 33) 32 3 1 8 (.t 30) 1 [(.lit (.int .i64 (0)))] [(0, (.t 31))],
  .op (some 4) (.mv (.t 33))])
 .skip)))
 (.reg [.op (some 18) (.mv (.t 6)),
  .op (some 19) (.binI .add (.t 18) (.v (.lit (.int .i64 (1))))),
  .op (some 6) (.mv (.t 19))]))))))
 (.seq (.reg [.op (some 34) (.mv (.t 4)),
  .op (some 2) (.mv (.t 34)),
  .op (some 3) (.mv (.v (.lit (.bool true))))])
 .ret))))))
def rs22 : List RR := [.tmp 2, .tmp 3]
def cut22 : Nat → Nat := fun id => if id = 8 then 21 else 0
theorem k22 : (Try.f22.body.bind fun c => comp Try.prog Try.f22.ntmps cut22 c) = some r22 := by kernel_rfl
theorem by22 {W0 : World} {σ : List Blk} {args : List AV} {K : Cont} (hn : args.length ≤ 35) (h : rW Try.prog W0 σ.length r22 (initFr args) σ (finP W0 rs22 σ.length K)) : ACall Try.prog W0 22 args σ K :=
  ACall.introR mixed Try.func22 (by kernel_rfl) k22 (by kernel_rfl) hn h
def r23 : RC := (.seq (.reg [.op (some 2) (.mv (.v (.lit (.slice none 0 0)))),
  .op (some 3) (.mv (.v (.lit (.bool false))))])
 (.seq (.reg [.op (some 4) (.mv (.t 0)),
  .op (some 5) (.call (.v (.lit (.func (.func 60) #[] #[]))) [(.t 4), (.v (.lit (.func (.func 61) #[] #[])))]),
  .op (some 6) (.ext (.t 5) 0),
  .op (some 7) (.ext (.t 5) 1),
  .op (some 2) (.mv (.t 6)),
  .op (some 3) (.mv (.t 7))])
 .ret))
def rs23 : List RR := [.tmp 2, .tmp 3]
def cut23 : Nat → Nat := fun id => 0
theorem k23 : (Try.f23.body.bind fun c => comp Try.prog Try.f23.ntmps cut23 c) = some r23 := by kernel_rfl
theorem by23 {W0 : World} {σ : List Blk} {args : List AV} {K : Cont} (hn : args.length ≤ 8) (h : rW Try.prog W0 σ.length r23 (initFr args) σ (finP W0 rs23 σ.length K)) : ACall Try.prog W0 23 args σ K :=
  ACall.introR mixed Try.func23 (by kernel_rfl) k23 (by kernel_rfl) hn h
def r24 : RC := (.seq (.reg [.op (some 4) (.mv (.v (.lit (.bool false))))])
 (.seq (.seq (.reg [.op (some 6) (.mv (.t 0)),
  .op (some 7) (.lenL (.t 6)),
  .op (some 8) (.mv (.t 1)),
  .op (some 9) (.lenL (.t 8)),
  .op (some 10) (.binI .neq (.t 7) (.t 9))])
 (.cond (.t 10)
 (.seq (.reg [.op (some 4) (.mv (.v (.lit (.bool false))))])
 .ret)
 .skip))
 (.seq (.seq (.reg [.op (some 5) (.mv (.v (.lit (.int .i64 (0)))))])
 (.block 0 (.loop (.seq (.seq (.reg [.op (some 11) (.mv (.t 5)),
  .op (some 12) (.mv (.t 0)),
  .op (some 13) (.lenL (.t 12)),
  .op (some 14) (.binI .lss (.t 11) (.t 13))])
 (.cond (.t 14)
 .skip
 (.exit 0)))
 (.seq (.block 1 (.seq (.draw [((some 17), (.mv (.t 0))), ((some 18), (.mv (.t 5))), ((some 19), (.iaddrS 1 (.t 17) (.t 18))), ((some 20), (.load 1 false (.t 19))), ((some 21), (.mv (.t 1))), ((some 22), (.mv (.t 5))), ((some 23), (.iaddrS 1 (.t 21) (.t 22))), ((some 24), (.load 1 false (.t 23))), ((some 25), (.binI .neq (.t 20) (.t 24)))] [])
 (.cond (.t 25)
 (.seq (.reg [.op (some 4) (.mv (.v (.lit (.bool false))))])
 .ret)
 .skip)))
 (.reg [.op (some 15) (.mv (.t 5)),
  .op (some 16) (.binI .add (.t 15) (.v (.lit (.int .i64 (1))))),
  .op (some 5) (.mv (.t 16))]))))))
 (.seq (.reg [.op (some 4) (.mv (.v (.lit (.bool true))))])
 .ret))))
def rs24 : List RR := [.tmp 4]
def cut24 : Nat → Nat := fun id => if id = 6 then 19 else 0
theorem k24 : (Try.f24.body.bind fun c => comp Try.prog Try.f24.ntmps cut24 c) = some r24 := by kernel_rfl
theorem by24 {W0 : World} {σ : List Blk} {args : List AV} {K : Cont} (hn : args.length ≤ 26) (h : rW Try.prog W0 σ.length r24 (initFr args) σ (finP W0 rs24 σ.length K)) : ACall Try.prog W0 24 args σ K :=
  ACall.introR mixed Try.func24 (by kernel_rfl) k24 (by kernel_rfl) hn h
def r25 : RC := (.seq (.reg [.op (some 4) (.mv (.v (.lit (.int .i64 (0)))))])
 (.seq (.seq (.reg [.op (some 5) (.mv (.v (.lit (.int .i64 (0)))))])
 (.block 0 (.loop (.seq (.seq (.reg [.op (some 6) (.mv (.t 5)),
  .op (some 7) (.mv (.t 0)),
  .op (some 8) (.lenL (.t 7)),
  .op (some 9) (.binI .lss (.t 6) (.t 8))])
 (.cond (.t 9)
 .skip
 (.exit 0)))
 (.seq (.block 1 (.seq (.reg [.op (some 12) (.mv (.t 0)),
  .op (some 13) (.mv (.t 5)),
  .op (some 14) (.mv (.t 1)),
  .op (some 15) (.iaddrS 1 (.t 12) (.t 13)),
  .op none (.store 1 (.t 15) (.t 14))])
 (.reg [.op (some 16) (.mv (.t 1)),
  .op (some 17) (.binI .add (.t 16) (.v (.lit (.int .i64 (1))))),
  .op (some 1) (.mv (.t 17))])))
 (.reg [.op (some 10) (.mv (.t 5)),
  .op (some 11) (.binI .add (.t 10) (.v (.lit (.int .i64 (1))))),
  .op (some 5) (.mv (.t 11))]))))))
 (.seq (.reg [.op (some 18) (.mv (.t 1)),
  .op (some 4) (.mv (.t 18))])
 .ret)))
def rs25 : List RR := [.tmp 4]
def cut25 : Nat → Nat := fun id => 0
theorem k25 : (Try.f25.body.bind fun c => comp Try.prog Try.f25.ntmps cut25 c) = some r25 := by kernel_rfl
theorem by25 {W0 : World} {σ : List Blk} {args : List AV} {K : Cont} (hn : args.length ≤ 19) (h : rW Try.prog W0 σ.length r25 (initFr args) σ (finP W0 rs25 σ.length K)) : ACall Try.prog W0 25 args σ K :=
  ACall.introR mixed Try.func25 (by kernel_rfl) k25 (by kernel_rfl) hn h
def r26 : RC := (.seq (.reg [.op (some 4) (.mv (.v (.lit (.int .i64 (0)))))])
 (.seq (.seq (.reg [.op (some 5) (.mv (.v (.lit (.int .i64 (0)))))])
 (.block 0 (.loop (.seq (.seq (.reg [.op (some 6) (.mv (.t 5)),
  .op (some 7) (.mv (.t 0)),
  .op (some 8) (.lenL (.t 7)),
  .op (some 9) (.binI .lss (.t 6) (.t 8))])
 (.cond (.t 9)
 .skip
 (.exit 0)))
 (.seq (.block 1 (.seq (.seq (.reg [.op (some 12) (.mv (.t 0)),
  .op (some 13) (.mv (.t 5)),
  .op (some 14) (.iaddrS 1 (.t 12) (.t 13)),
  .op (some 15) (.load 1 false (.t 14)),
  .op (some 16) (.mv (.t 1)),
  .op (some 17) (.binI .neq (.t 15) (.t 16))])
 (.cond (.t 17)
 (.seq (.reg [.op (some 4) (.mv (.v (.lit (.int .i64 (-1)))))])
 .ret)
 .skip))
 (.reg [.op (some 18) (.mv (.t 1)),
  .op (some 19) (.binI .add (.t 18) (.v (.lit (.int .i64 (1))))),
  .op (some 1) (.mv (.t 19))])))
 (.reg [.op (some 10) (.mv (.t 5)),
  .op (some 11) (.binI .add (.t 10) (.v (.lit (.int .i64 (1))))),
  .op (some 5) (.mv (.t 11))]))))))
 (.seq (.reg [.op (some 20) (.mv (.t 1)),
  .op (some 4) (.mv (.t 20))])
 .ret)))
def rs26 : List RR := [.tmp 4]
def cut26 : Nat → Nat := fun id => 0
theorem k26 : (Try.f26.body.bind fun c => comp Try.prog Try.f26.ntmps cut26 c) = some r26 := by kernel_rfl
theorem by26 {W0 : World} {σ : List Blk} {args : List AV} {K : Cont} (hn : args.length ≤ 21) (h : rW Try.prog W0 σ.length r26 (initFr args) σ (finP W0 rs26 σ.length K)) : ACall Try.prog W0 26 args σ K :=
  ACall.introR mixed Try.func26 (by kernel_rfl) k26 (by kernel_rfl) hn h
def r27 : RC := (.seq (.reg [.op (some 2) (.mv (.v (.lit (.slice none 0 0)))),
  .op (some 3) (.mv (.v (.lit (.bool false))))])
 (.seq (.reg [.op (some 7) (.bslice 3 1 0 [(.lit (.int .i64 (0)))] []),
  .op (some 4) (.mv (.t 7))])
 (.seq (.seq (.reg [.op (some 8) (.mv (.t 0)),
  .op (some 9) (.call (.v (.lit (.func (.func 51) #[] #[]))) [(.t 8)]),
  .op (some 10) (.un .not (.t 9))])
 (.cond (.t 10)
 (.seq (.reg [.op (some 11) (.mv (.t 4)),
  .op (some 2) (.mv (.t 11)),
  .op (some 3) (.mv (.v (.lit (.bool false))))])
 .ret)
 .skip))
 (.seq (.reg [.op (some 12) (.mv (.t 0)),
  .op (some 13) (.call (.v (.lit (.func (.func 59) #[] #[]))) [(.t 12)]),
  .op (some 5) (.mv (.t 13))])
 (.seq (.seq (.reg [.op (some 6) (.mv (.v (.lit (.int .i64 (0)))))])
 (.block 0 (.loop (.seq (.seq (.reg [.op (some 14) (.mv (.t 6)),
  .op (some 15) (.mv (.t 0)),
  .op (some 16) (.lenL (.t 15)),
  .op (some 17) (.binI .lss (.t 14) (.t 16))])
 (.cond (.t 17)
 .skip
 (.exit 0)))
 (.seq (.block 1 (.seq (.reg [.op (some 20) (.mv (.t 5)),
  .op (some 21) (.mv (.t 6)),
  .op (some 22) (.iaddrS 6 (.t 20) (.t 21)),
  .op (some 23) (.load 6 true (.t 22)),
  .op (some 24) (.call (.v (.lit (.func (.func 52) #[] #[]))) [(.t 23)]),
  .op (some 25) (.binI .eql (.t 24) (.v (.lit (.int .i64 (0)))))])
 (.cond (.t 25)
 (.reg [.op (some 26) (.mv (.t 4)),
  .op (some 27) (.mv (.t 6)),
  .app (some 29) 28 3 1 8 (.t 26) 1 [(.lit (.int .i64 (0)))] [(0, (.t 27))],
  .op (some 4) (.mv (.t 29))])
 .skip)))
 (.reg [.op (some 18) (.mv (.t 6)),
  .op (some 19) (.binI .add (.t 18) (.v (.lit (.int .i64 (1))))),
  .op (some 6) (.mv (.t 19))]))))))
 (.seq (.reg [.op (some 30) (.mv (.t 4)),
  .op (some 2) (.mv (.t 30)),
  .op (some 3) (.mv (.v (.lit (.bool true))))])
 .ret))))))
def rs27 : List RR := [.tmp 2, .tmp 3]
def cut27 : Nat → Nat := fun id => 0
theorem k27 : (Try.f27.body.bind fun c => comp Try.prog Try.f27.ntmps cut27 c) = some r27 := by kernel_rfl
theorem by27 {W0 : World} {σ : List Blk} {args : List AV} {K : Cont} (hn : args.length ≤ 31) (h : rW Try.prog W0 σ.length r27 (initFr args) σ (finP W0 rs27 σ.length K)) : ACall Try.prog W0 27 args σ K :=
  ACall.introR mixed Try.func27 (by kernel_rfl) k27 (by kernel_rfl) hn h
def r28 : RC := (.seq (.reg [.op (some 2) (.mv (.v (.lit (.slice none 0 0)))),
  .op (some 3) (.mv (.v (.lit (.bool false))))])
 (.seq (.reg [.op (some 4) (.mv (.t 0)),
  .op (some 5) (.call (.v (.lit (.func (.func 60) #[] #[]))) [(.t 4), (.v (.lit (.func (.func 62) #[] #[])))]),
  .op (some 6) (.ext (.t 5) 0),
  .op (some 7) (.ext (.t 5) 1),
  .op (some 2) (.mv (.t 6)),
  .op (some 3) (.mv (.t 7))])
 .ret))
def rs28 : List RR := [.tmp 2, .tmp 3]
def cut28 : Nat → Nat := fun id => 0
theorem k28 : (Try.f28.body.bind fun c => comp Try.prog Try.f28.ntmps cut28 c) = some r28 := by kernel_rfl
theorem by28 {W0 : World} {σ : List Blk} {args : List AV} {K : Cont} (hn : args.length ≤ 8) (h : rW Try.prog W0 σ.length r28 (initFr args) σ (finP W0 rs28 σ.length K)) : ACall Try.prog W0 28 args σ K :=
  ACall.introR mixed Try.func28 (by kernel_rfl) k28 (by kernel_rfl) hn h
def r29 : RC := (.seq (.reg [.op (some 2) (.box 44 (.t 0)),
  .op (some 4) (.mv (.v (.lit (.slice none 0 0)))),
  .op (some 5) (.mv (.v (.lit (.bool false))))])
 (.seq (.reg [.op (some 8) (.bslice 3 1 0 [(.lit (.int .i64 (0)))] []),
  .op (some 6) (.mv (.t 8))])
 (.seq (.seq (.reg [.op (some 9) (.load 36 true (.t 2)),
  .op (some 10) (.call (.v (.lit (.func (.func 63) #[] #[]))) [(.t 9)]),
  .op (some 11) (.un .not (.t 10)),
  .op (some 12) (.mv (.t 11)),
  .grp 12 false [((some 13), (.mv (.t 1))), ((some 14), (.call (.v (.lit (.func (.func 51) #[] #[]))) [(.t 13)])), ((some 15), (.un .not (.t 14)))],
  .op (some 16) (.pick (.t 12) (.v (.lit (.bool true))) (.t 15))])
 (.cond (.t 16)
 (.seq (.reg [.op (some 17) (.mv (.t 6)),
  .op (some 4) (.mv (.t 17)),
  .op (some 5) (.mv (.v (.lit (.bool false))))])
 .ret)
 .skip))
 (.seq (.seq (.reg [.op (some 7) (.mv (.v (.lit (.int .i64 (0)))))])
 (.block 0 (.loop (.seq (.seq (.reg [.op (some 18) (.mv (.t 7)),
  .op (some 19) (.mv (.t 1)),
  .op (some 20) (.lenL (.t 19)),
  .op (some 21) (.binI .lss (.t 18) (.t 20))])
 (.cond (.t 21)
 .skip
 (.exit 0)))
 (.seq (.block 1 (.seq (.draw [((some 24), (.load 36 true (.t 2))), ((some 25), (.mv (.t 1))), ((some 26), (.mv (.t 7))), ((some 27), (.iaddrS 9 (.t 25) (.t 26))), ((some 28), (.load 9 true (.t 27))), ((some 29), (.call (.v (.lit (.func (.func 64) #[] #[]))) [(.t 24), (.t 28)])), ((some 30), (.load 36 true (.t 2))), ((some 31), (.eqA false [.int, .int, .int, .int, .int, .int, .int, .int, .int, .int, .int, .int, .int, .int, .int, .int, .int, .int, .int, .int, .int, .int, .int, .int, .int, .int, .int, .int, .int, .int, .int, .int, .int, .int, .int, .int] (.t 29) (.t 30)))] [])
 (.cond (.t 31)
 (.reg [.op (some 32) (.mv (.t 6)),
  .op (some 33) (.mv (.t 7)),
  .app (some 35) 34 3 1 8 (.t 32) 1 [(.lit (.int .i64 (0)))] [(0, (.t 33))],
  .op (some 6) (.mv (.t 35))])
 .skip)))
 (.reg [.op (some 22) (.mv (.t 7)),
  .op (some 23) (.binI .add (.t 22) (.v (.lit (.int .i64 (1))))),
  .op (some 7) (.mv (.t 23))]))))))
 (.seq (.reg [.op (some 36) (.mv (.t 6)),
  .op (some 4) (.mv (.t 36)),
  .op (some 5) (.mv (.v (.lit (.bool true))))])
 .ret)))))
def rs29 : List RR := [.tmp 4, .tmp 5]
def cut29 : Nat → Nat := fun id => if id = 7 then 17 else 0
theorem k29 : (Try.f29.body.bind fun c => comp Try.prog Try.f29.ntmps cut29 c) = some r29 := by kernel_rfl
theorem by29 {W0 : World} {σ : List Blk} {args : List AV} {K : Cont} (hn : args.length ≤ 37) (h : rW Try.prog W0 σ.length r29 (initFr args) σ (finP W0 rs29 σ.length K)) : ACall Try.prog W0 29 args σ K :=
  ACall.introR mixed Try.func29 (by kernel_rfl) k29 (by kernel_rfl) hn h
def r30 : RC := (.seq (.reg [.op (some 1) (.box 42 (.t 0)),
  .op (some 2) (.alloc 44 (List.replicate 36 (.lit (.int .i64 (0)))))])
 (.seq (.reg [.op (some 3) (.alloc 44 (List.replicate 36 (.lit (.int .i64 (0)))))])
 (.seq (.reg [.op (some 4) (.faddr 0 (.t 1)),
  .op (some 5) (.load 36 true (.t 4)),
  .op (some 6) (.call (.v (.lit (.func (.func 65) #[] #[]))) [(.t 5)]),
  .op (some 7) (.faddr 0 (.t 3)),
  .op none (.store 36 (.t 7) (.t 6))])
 (.seq (.reg [.op (some 8) (.load 36 true (.t 3)),
  .op none (.store 36 (.t 2) (.t 8))])
 .ret))))
def rs30 : List RR := [.cell 2 36 true]
def cut30 : Nat → Nat := fun id => 0
theorem k30 : (Try.f30.body.bind fun c => comp Try.prog Try.f30.ntmps cut30 c) = some r30 := by kernel_rfl
theorem by30 {W0 : World} {σ : List Blk} {args : List AV} {K : Cont} (hn : args.length ≤ 9) (h : rW Try.prog W0 σ.length r30 (initFr args) σ (finP W0 rs30 σ.length K)) : ACall Try.prog W0 30 args σ K :=
  ACall.introR mixed Try.func30 (by kernel_rfl) k30 (by kernel_rfl) hn h
def r31 : RC := (.seq (.reg [.op (some 2) (.box 44 (.t 0)),
  .op (some 4) (.mv (.v (.lit (.slice none 0 0)))),
  .op (some 5) (.mv (.v (.lit (.bool false))))])
 (.seq (.reg [.op (some 12) (.mv (.t 1)),
  .op (some 13) (.call (.v (.lit (.func (.func 56) #[] #[]))) [(.t 12)]),
  .op (some 11) (.mv (.t 13)),
  .op (some 14) (.ext (.t 11) 0),
  .op (some 15) (.ext (.t 11) 1),
  .op (some 6) (.mv (.t 14)),
  .op (some 7) (.mv (.t 15))])
 (.seq (.seq (.reg [.op (some 16) (.mv (.t 7)),
  .op (some 17) (.un .not (.t 16)),
  .op (some 18) (.mv (.t 17)),
  .grp 18 false [((some 19), (.load 36 true (.t 2))), ((some 20), (.call (.v (.lit (.func (.func 66) #[] #[]))) [(.t 19)])), ((some 21), (.un .not (.t 20)))],
  .op (some 22) (.pick (.t 18) (.v (.lit (.bool true))) (.t 21))])
 (.cond (.t 22)
 (.seq (.reg [.op (some 4) (.mv (.v (.lit (.slice none 0 0)))),
  .op (some 5) (.mv (.v (.lit (.bool false))))])
 .ret)
 .skip))
 (.seq (.reg [.op (some 23) (.bslice 3 1 0 [(.lit (.int .i64 (0)))] []),
  .op (some 8) (.mv (.t 23))])
 (.seq (.seq (.reg [.op (some 24) (.mv (.t 6)),
  .op (some 25) (.lenL (.t 24)),
  .op (some 26) (.mv (.v (.lit (.int .i64 (0)))))])
 (.block 0 (.loop (.seq (.reg [.op (some 27) (.binI .lss (.t 26) (.t 25))])
 (.seq (.cond (.t 27)
 .skip
 (.exit 0))
 (.seq (.block 1 (.seq (.reg [.op (some 28) (.mv (.t 26)),
  .op (some 29) (.iaddrS 2 (.t 24) (.t 26)),
  .op (some 30) (.load 2 true (.t 29)),
  .op (some 10) (.alloc 93 [(.lit (.int .u64 (0))), (.lit (.int .i64 (0)))]),
  .op (some 9) (.mv (.t 28)),
  .op none (.store 2 (.t 10) (.t 30))])
 (.seq (.draw [((some 31), (.faddr 0 (.t 10))), ((some 32), (.load 1 false (.t 31))), ((some 33), (.load 36 true (.t 2))), ((some 34), (.faddr 1 (.t 10))), ((some 35), (.load 1 false (.t 34))), ((some 36), (.call (.v (.lit (.func (.func 67) #[] #[]))) [(.t 33), (.t 35)])), ((some 37), (.binI .andNot (.t 32) (.t 36))), ((some 38), (.binI .eql (.t 37) (.v (.lit (.int .u64 (0))))))] [])
 (.cond (.t 38)
 (.reg [.op (some 39) (.mv (.t 8)),
  .op (some 40) (.mv (.t 9)),
  .app (some 42) 41 3 1 8 (.t 39) 1 [(.lit (.int .i64 (0)))] [(0, (.t 40))],
  .op (some 8) (.mv (.t 42))])
 .skip))))
 (.reg [.op (some 43) (.binI .add (.t 26) (.v (.lit (.int .i64 (1))))),
  .op (some 26) (.mv (.t 43))])))))))
 (.seq (.reg [.op (some 44) (.mv (.t 8)),
  .op (some 4) (.mv (.t 44)),
  .op (some 5) (.mv (.v (.lit (.bool true))))])
 .ret))))))
def rs31 : List RR := [.tmp 4, .tmp 5]
def cut31 : Nat → Nat := fun id => if id = 8 then 17 else 0
theorem k31 : (Try.f31.body.bind fun c => comp Try.prog Try.f31.ntmps cut31 c) = some r31 := by kernel_rfl
theorem by31 {W0 : World} {σ : List Blk} {args : List AV} {K : Cont} (hn : args.length ≤ 45) (h : rW Try.prog W0 σ.length r31 (initFr args) σ (finP W0 rs31 σ.length K)) : ACall Try.prog W0 31 args σ K :=
  ACall.introR mixed Try.func31 (by kernel_rfl) k31 (by kernel_rfl) hn h
def r32 : RC := (.seq (.reg [.op (some 3) (.box 44 (.t 0)),
  .op (some 6) (.mv (.v (.lit (.bool false)))),
  .op (some 7) (.mv (.v (.lit (.bool false))))])
 (.seq (.seq (.reg [.op (some 8) (.load 36 true (.t 3)),
  .op (some 9) (.call (.v (.lit (.func (.func 63) #[] #[]))) [(.t 8)]),
  .op (some 10) (.un .not (.t 9)),
  .op (some 11) (.mv (.t 10)),
  .grp 11 false [((some 12), (.mv (.t 1))), ((some 13), (.call (.v (.lit (.func (.func 51) #[] #[]))) [(.t 12)])), ((some 14), (.un .not (.t 13)))],
  .op (some 15) (.pick (.t 11) (.v (.lit (.bool true))) (.t 14)),
  .op (some 16) (.mv (.t 15)),
  .grp 16 false [((some 17), (.mv (.t 2))), ((some 18), (.mv (.t 1))), ((some 19), (.lenL (.t 18))), ((some 20), (.call (.v (.lit (.func (.func 68) #[] #[]))) [(.t 17), (.t 19)])), ((some 21), (.un .not (.t 20)))],
  .op (some 22) (.pick (.t 16) (.v (.lit (.bool true))) (.t 21))])
 (.cond (.t 22)
 (.seq (.reg [.op (some 6) (.mv (.v (.lit (.bool false)))),
  .op (some 7) (.mv (.v (.lit (.bool false))))])
 .ret)
 .skip))
 (.seq (.draw [((some 23), (.mv (.t 1))), ((some 24), (.mv (.t 2))), ((some 25), (.call (.v (.lit (.func (.func 69) #[] #[]))) [(.t 23), (.t 24)])), ((some 26), (.load 36 true (.t 3))), ((some 27), (.eqA false [.int, .int, .int, .int, .int, .int, .int, .int, .int, .int, .int, .int, .int, .int, .int, .int, .int, .int, .int, .int, .int, .int, .int, .int, .int, .int, .int, .int, .int, .int, .int, .int, .int, .int, .int, .int] (.t 25) (.t 26))), ((some 6), (.mv (.t 27))), ((some 7), (.mv (.v (.lit (.bool true)))))] [])
 .ret)))
def rs32 : List RR := [.tmp 6, .tmp 7]
def cut32 : Nat → Nat := fun id => if id = 3 then 15 else 0
theorem k32 : (Try.f32.body.bind fun c => comp Try.prog Try.f32.ntmps cut32 c) = some r32 := by kernel_rfl
theorem by32 {W0 : World} {σ : List Blk} {args : List AV} {K : Cont} (hn : args.length ≤ 28) (h : rW Try.prog W0 σ.length r32 (initFr args) σ (finP W0 rs32 σ.length K)) : ACall Try.prog W0 32 args σ K :=
  ACall.introR mixed Try.func32 (by kernel_rfl) k32 (by kernel_rfl) hn h
def r33 : RC := (.seq (.reg [.op (some 2) (.mv (.v (.lit (.slice none 0 0))))])
 (.seq (.reg [.op (some 5) (.mv (.t 0)),
  .op (some 6) (.lenL (.t 5)),
  .op (some 7) (.mkslice 3 1 8 [(.lit (.int .i64 (0)))] (.t 6) (.t 6)),
  .op (some 3) (.mv (.t 7))])
 (.seq (.seq (.reg [.op (some 4) (.mv (.v (.lit (.int .i64 (0)))))])
 (.block 0 (.loop (.seq (.seq (.reg [.op (some 8) (.mv (.t 4)),
  .op (some 9) (.mv (.t 0)),
  .op (some 10) (.lenL (.t 9)),
  .op (some 11) (.binI .lss (.t 8) (.t 10))])
 (.cond (.t 11)
 .skip
 (.exit 0)))
 (.seq (.block 1 (.reg [.op (some 14) (.mv (.t 3)),
  .op (some 15) (.mv (.t 4)),
  .op (some 16) (.mv (.t 0)),
  .op (some 17) (.mv (.t 4)),
  .op (some 18) (.iaddrS 1 (.t 16) (.t 17)),
  .op (some 19) (.load 1 false (.t 18)),
  .op (some 20) (.iaddrS 1 (.t 14) (.t 15)),
  .op none (.store 1 (.t 20) (.t 19))]))
 (.reg [.op (some 12) (.mv (.t 4)),
  .op (some 13) (.binI .add (.t 12) (.v (.lit (.int .i64 (1))))),
  .op (some 4) (.mv (.t 13))]))))))
 (.seq (.reg [.op (some 21) (.mv (.t 3)),
  .op (some 2) (.mv (.t 21))])
 .ret))))
def rs33 : List RR := [.tmp 2]
def cut33 : Nat → Nat := fun id => 0
theorem k33 : (Try.f33.body.bind fun c => comp Try.prog Try.f33.ntmps cut33 c) = some r33 := by kernel_rfl
theorem by33 {W0 : World} {σ : List Blk} {args : List AV} {K : Cont} (hn : args.length ≤ 22) (h : rW Try.prog W0 σ.length r33 (initFr args) σ (finP W0 rs33 σ.length K)) : ACall Try.prog W0 33 args σ K :=
  ACall.introR mixed Try.func33 (by kernel_rfl) k33 (by kernel_rfl) hn h
def r34 : RC := (.seq (.reg [.op (some 3) (.box 44 (.t 0)),
  .op (some 6) (.mv (.v (.lit (.bool false)))),
  .op (some 7) (.mv (.v (.lit (.bool false))))])
 (.seq (.reg [.op (some 11) (.mv (.t 1)),
  .op (some 12) (.call (.v (.lit (.func (.func 56) #[] #[]))) [(.t 11)]),
  .op (some 10) (.mv (.t 12)),
  .op (some 13) (.ext (.t 10) 0),
  .op (some 14) (.ext (.t 10) 1),
  .op (some 8) (.mv (.t 13)),
  .op (some 9) (.mv (.t 14))])
 (.seq (.seq (.reg [.op (some 15) (.mv (.t 9)),
  .op (some 16) (.un .not (.t 15)),
  .op (some 17) (.mv (.t 16)),
  .grp 17 false [((some 18), (.load 36 true (.t 3))), ((some 19), (.call (.v (.lit (.func (.func 66) #[] #[]))) [(.t 18)])), ((some 20), (.un .not (.t 19)))],
  .op (some 21) (.pick (.t 17) (.v (.lit (.bool true))) (.t 20)),
  .op (some 22) (.mv (.t 21)),
  .grp 22 false [((some 23), (.mv (.t 2))), ((some 24), (.mv (.t 1))), ((some 25), (.lenL (.t 24))), ((some 26), (.call (.v (.lit (.func (.func 70) #[] #[]))) [(.t 23), (.t 25)])), ((some 27), (.un .not (.t 26)))],
  .op (some 28) (.pick (.t 22) (.v (.lit (.bool true))) (.t 27))])
 (.cond (.t 28)
 (.seq (.reg [.op (some 6) (.mv (.v (.lit (.bool false)))),
  .op (some 7) (.mv (.v (.lit (.bool false))))])
 .ret)
 .skip))
 (.seq (.any true (.n ⟨none, (some 29), (.mv (.t 8))⟩
 (.n ⟨none, (some 30), (.mv (.t 2))⟩
 (.h ⟨none, (some 33), (.load 36 true (.t 3))⟩
 (.t ⟨none, (some 31), (.call (.v (.lit (.func (.func 72) #[] #[]))) [(.t 29), (.t 30)])⟩
 (.n ⟨none, (some 32), (.call (.v (.lit (.func (.func 71) #[] #[]))) [(.t 31)])⟩
 (.n ⟨none, (some 34), (.eqA false [.int, .int, .int, .int, .int, .int, .int, .int, .int, .int, .int, .int, .int, .int, .int, .int, .int, .int, .int, .int, .int, .int, .int, .int, .int, .int, .int, .int, .int, .int, .int, .int, .int, .int, .int, .int] (.t 32) (.t 33))⟩
 (.n ⟨none, (some 6), (.mv (.t 34))⟩
 (.n ⟨none, (some 7), (.mv (.v (.lit (.bool true))))⟩
 .fin)))))))))
 .ret))))
def rs34 : List RR := [.tmp 6, .tmp 7]
def cut34 : Nat → Nat := fun id => if id = 4 then 1000009 else 0
theorem k34 : (Try.f34.body.bind fun c => comp Try.prog Try.f34.ntmps cut34 c) = some r34 := by kernel_rfl
theorem by34 {W0 : World} {σ : List Blk} {args : List AV} {K : Cont} (hn : args.length ≤ 35) (h : rW Try.prog W0 σ.length r34 (initFr args) σ (finP W0 rs34 σ.length K)) : ACall Try.prog W0 34 args σ K :=
  ACall.introR mixed Try.func34 (by kernel_rfl) k34 (by kernel_rfl) hn h
def r35 : RC := (.seq (.reg [.op (some 2) (.box 44 (.t 0)),
  .op (some 4) (.mv (.v (.lit (.int .i64 (0))))),
  .op (some 5) (.mv (.v (.lit (.bool false))))])
 (.seq (.seq (.reg [.op (some 6) (.load 36 true (.t 2)),
  .op (some 7) (.call (.v (.lit (.func (.func 63) #[] #[]))) [(.t 6)]),
  .op (some 8) (.un .not (.t 7)),
  .op (some 9) (.mv (.t 8)),
  .grp 9 false [((some 10), (.mv (.t 1))), ((some 11), (.call (.v (.lit (.func (.func 51) #[] #[]))) [(.t 10)])), ((some 12), (.un .not (.t 11)))],
  .op (some 13) (.pick (.t 9) (.v (.lit (.bool true))) (.t 12))])
 (.cond (.t 13)
 (.seq (.reg [.op (some 4) (.mv (.v (.lit (.int .i64 (0))))),
  .op (some 5) (.mv (.v (.lit (.bool false))))])
 .ret)
 .skip))
 (.seq (.reg [.op (some 14) (.load 36 true (.t 2)),
  .op (some 15) (.mv (.t 1)),
  .op (some 16) (.call (.v (.lit (.func (.func 73) #[] #[]))) [(.t 14), (.t 15)]),
  .op (some 17) (.lenL (.t 16)),
  .op (some 4) (.mv (.t 17)),
  .op (some 5) (.mv (.v (.lit (.bool true))))])
 .ret)))
def rs35 : List RR := [.tmp 4, .tmp 5]
def cut35 : Nat → Nat := fun id => 0
theorem k35 : (Try.f35.body.bind fun c => comp Try.prog Try.f35.ntmps cut35 c) = some r35 := by kernel_rfl
theorem by35 {W0 : World} {σ : List Blk} {args : List AV} {K : Cont} (hn : args.length ≤ 18) (h : rW Try.prog W0 σ.length r35 (initFr args) σ (finP W0 rs35 σ.length K)) : ACall Try.prog W0 35 args σ K :=
  ACall.introR mixed Try.func35 (by kernel_rfl) k35 (by kernel_rfl) hn h
def r36 : RC := (.seq (.reg [.op (some 2) (.box 44 (.t 0)),
  .op (some 4) (.mv (.v (.lit (.int .i64 (0))))),
  .op (some 5) (.mv (.v (.lit (.bool false))))])
 (.seq (.reg [.op (some 9) (.load 36 true (.t 2)),
  .op (some 10) (.mv (.t 1)),
  .op (some 11) (.call (.v (.lit (.func (.func 74) #[] #[]))) [(.t 9), (.t 10)]),
  .op (some 8) (.mv (.t 11)),
  .op (some 12) (.ext (.t 8) 0),
  .op (some 13) (.ext (.t 8) 1),
  .op (some 6) (.mv (.t 12)),
  .op (some 7) (.mv (.t 13))])
 (.seq (.reg [.op (some 14) (.mv (.t 6)),
  .op (some 15) (.lenL (.t 14)),
  .op (some 16) (.mv (.t 7)),
  .op (some 4) (.mv (.t 15)),
  .op (some 5) (.mv (.t 16))])
 .ret)))
def rs36 : List RR := [.tmp 4, .tmp 5]
def cut36 : Nat → Nat := fun id => 0
theorem k36 : (Try.f36.body.bind fun c => comp Try.prog Try.f36.ntmps cut36 c) = some r36 := by kernel_rfl
theorem by36 {W0 : World} {σ : List Blk} {args : List AV} {K : Cont} (hn : args.length ≤ 17) (h : rW Try.prog W0 σ.length r36 (initFr args) σ (finP W0 rs36 σ.length K)) : ACall Try.prog W0 36 args σ K :=
  ACall.introR mixed Try.func36 (by kernel_rfl) k36 (by kernel_rfl) hn h
def r37 : RC := (.seq (.reg [.op (some 2) (.box 44 (.t 0)),
  .op (some 4) (.mv (.v (.lit (.slice none 0 0)))),
  .op (some 5) (.mv (.v (.lit (.bool false))))])
 (.seq (.seq (.reg [.op (some 7) (.load 36 true (.t 2)),
  .op (some 8) (.call (.v (.lit (.func (.func 63) #[] #[]))) [(.t 7)]),
  .op (some 9) (.un .not (.t 8)),
  .op (some 10) (.mv (.t 9)),
  .grp 10 false [((some 11), (.mv (.t 1))), ((some 12), (.call (.v (.lit (.func (.func 51) #[] #[]))) [(.t 11)])), ((some 13), (.un .not (.t 12)))],
  .op (some 14) (.pick (.t 10) (.v (.lit (.bool true))) (.t 13))])
 (.cond (.t 14)
 (.seq (.reg [.op (some 15) (.bslice 3 1 0 [(.lit (.int .i64 (0)))] []),
  .op (some 4) (.mv (.t 15)),
  .op (some 5) (.mv (.v (.lit (.bool false))))])
 .ret)
 .skip))
 (.seq (.reg [.op (some 16) (.load 36 true (.t 2)),
  .op (some 17) (.mv (.t 1)),
  .op (some 18) (.call (.v (.lit (.func (.func 73) #[] #[]))) [(.t 16), (.t 17)]),
  .op (some 6) (.mv (.t 18))])
 (.seq (.seq (.reg [.op (some 19) (.mv (.t 6)),
  .op (some 20) (.lenL (.t 19)),
  .op (some 21) (.binI .eql (.t 20) (.v (.lit (.int .i64 (0)))))])
 (.cond (.t 21)
 (.seq (.reg [.op (some 22) (.bslice 3 1 0 [(.lit (.int .i64 (0)))] []),
  .op (some 4) (.mv (.t 22)),
  .op (some 5) (.mv (.v (.lit (.bool false))))])
 .ret)
 .skip))
 (.seq (.reg [.op (some 23) (.mv (.t 6)),
  .op (some 24) (.iaddrS 1 (.t 23) (.v (.lit (.int .i64 (0))))),
  .op (some 25) (.load 1 false (.t 24)),
  .op (some 4) (.mv (.t 25)),
  .op (some 5) (.mv (.v (.lit (.bool true))))])
 .ret)))))
def rs37 : List RR := [.tmp 4, .tmp 5]
def cut37 : Nat → Nat := fun id => 0
theorem k37 : (Try.f37.body.bind fun c => comp Try.prog Try.f37.ntmps cut37 c) = some r37 := by kernel_rfl
theorem by37 {W0 : World} {σ : List Blk} {args : List AV} {K : Cont} (hn : args.length ≤ 26) (h : rW Try.prog W0 σ.length r37 (initFr args) σ (finP W0 rs37 σ.length K)) : ACall Try.prog W0 37 args σ K :=
  ACall.introR mixed Try.func37 (by kernel_rfl) k37 (by kernel_rfl) hn h
def r38 : RC := (.seq (.reg [.op (some 2) (.box 44 (.t 0)),
  .op (some 4) (.mv (.v (.lit (.slice none 0 0)))),
  .op (some 5) (.mv (.v (.lit (.bool false))))])
 (.seq (.reg [.op (some 9) (.load 36 true (.t 2)),
  .op (some 10) (.mv (.t 1)),
  .op (some 11) (.call (.v (.lit (.func (.func 74) #[] #[]))) [(.t 9), (.t 10)]),
  .op (some 8) (.mv (.t 11)),
  .op (some 12) (.ext (.t 8) 0),
  .op (some 13) (.ext (.t 8) 1),
  .op (some 6) (.mv (.t 12)),
  .op (some 7) (.mv (.t 13))])
 (.seq (.seq (.reg [.op (some 14) (.mv (.t 7)),
  .op (some 15) (.un .not (.t 14)),
  .op (some 16) (.mv (.t 15)),
  .grp 16 false [((some 17), (.mv (.t 6))), ((some 18), (.lenL (.t 17))), ((some 19), (.binI .eql (.t 18) (.v (.lit (.int .i64 (0))))))],
  .op (some 20) (.pick (.t 16) (.v (.lit (.bool true))) (.t 19))])
 (.cond (.t 20)
 (.seq (.reg [.op (some 4) (.mv (.v (.lit (.slice none 0 0)))),
  .op (some 5) (.mv (.v (.lit (.bool false))))])
 .ret)
 .skip))
 (.seq (.reg [.op (some 21) (.mv (.t 6)),
  .op (some 22) (.iaddrS 1 (.t 21) (.v (.lit (.int .i64 (0))))),
  .op (some 23) (.load 1 false (.t 22)),
  .op (some 4) (.mv (.t 23)),
  .op (some 5) (.mv (.v (.lit (.bool true))))])
 .ret))))
def rs38 : List RR := [.tmp 4, .tmp 5]
def cut38 : Nat → Nat := fun id => 0
theorem k38 : (Try.f38.body.bind fun c => comp Try.prog Try.f38.ntmps cut38 c) = some r38 := by kernel_rfl
theorem by38 {W0 : World} {σ : List Blk} {args : List AV} {K : Cont} (hn : args.length ≤ 24) (h : rW Try.prog W0 σ.length r38 (initFr args) σ (finP W0 rs38 σ.length K)) : ACall Try.prog W0 38 args σ K :=
  ACall.introR mixed Try.func38 (by kernel_rfl) k38 (by kernel_rfl) hn h
def r39 : RC := (.seq (.reg [.op (some 2) (.mv (.v (.lit (.slice none 0 0)))),
  .op (some 3) (.mv (.v (.lit (.bool false))))])
 (.seq (.seq (.reg [.op (some 9) (.mv (.t 0)),
  .op (some 10) (.call (.v (.lit (.func (.func 51) #[] #[]))) [(.t 9)]),
  .op (some 11) (.un .not (.t 10))])
 (.cond (.t 11)
 (.seq (.reg [.op (some 12) (.bslice 3 1 0 [(.lit (.int .i64 (0)))] []),
  .op (some 2) (.mv (.t 12)),
  .op (some 3) (.mv (.v (.lit (.bool false))))])
 .ret)
 .skip))
 (.seq (.reg [.op (some 13) (.mv (.t 0)),
  .op (some 14) (.lenL (.t 13)),
  .op (some 15) (.call (.v (.lit (.func (.func 75) #[] #[]))) [(.t 14)]),
  .op (some 4) (.mv (.t 15))])
 (.seq (.reg [.op (some 16) (.mv (.t 0)),
  .op (some 17) (.mv (.t 4)),
  .op (some 18) (.call (.v (.lit (.func (.func 69) #[] #[]))) [(.t 16), (.t 17)]),
  .op (some 5) (.alloc 44 (List.replicate 36 (.lit (.int .i64 (0))))),
  .op none (.store 36 (.t 5) (.t 18))])
 (.seq (.seq (.reg [.op (some 6) (.mv (.v (.lit (.int .i64 (0)))))])
 (.block 0 (.loop (.seq (.seq (.reg [.op (some 19) (.mv (.t 6)),
  .op (some 20) (.mv (.t 0)),
  .op (some 21) (.lenL (.t 20)),
  .op (some 22) (.binI .shl (.v (.lit (.int .i64 (1)))) (.t 21)),
  .op (some 23) (.binI .lss (.t 19) (.t 22))])
 (.cond (.t 23)
 .skip
 (.exit 0)))
 (.seq (.block 1 (.seq (.reg [.op (some 26) (.bslice 3 1 0 [(.lit (.int .i64 (0)))] []),
  .op (some 7) (.mv (.t 26))])
 (.seq (.seq (.reg [.op (some 8) (.mv (.v (.lit (.int .i64 (0)))))])
 (.block 2 (.loop (.seq (.seq (.reg [.op (some 27) (.mv (.t 8)),
  .op (some 28) (.mv (.t 0)),
  .op (some 29) (.lenL (.t 28)),
  .op (some 30) (.binI .lss (.t 27) (.t 29))])
 (.cond (.t 30)
 .skip
 (.exit 2)))
 (.seq (.block 3 (.seq (.reg [.op (some 33) (.mv (.t 6)),
  .op (some 34) (.mv (.t 8)),
  .op (some 35) (.binI .shr (.t 33) (.t 34)),
  .op (some 36) (.binI .and (.t 35) (.v (.lit (.int .i64 (1))))),
  .op (some 37) (.binI .eql (.t 36) (.v (.lit (.int .i64 (1)))))])
 (.cond (.t 37)
 (.reg [.op (some 38) (.mv (.t 7)),
  .op (some 39) (.mv (.t 8)),
  .app (some 41) 40 3 1 8 (.t 38) 1 [(.lit (.int .i64 (0)))] [(0, (.t 39))],
  .op (some 7) (.mv (.t 41))])
 .skip)))
 (.reg [.op (some 31) (.mv (.t 8)),
  .op (some 32) (.binI .add (.t 31) (.v (.lit (.int .i64 (1))))),
  .op (some 8) (.mv (.t 32))]))))))
 (.seq (.quiet [.op (some 42) (.mv (.t 0)),
  .op (some 43) (.mv (.t 7)),
  .op (some 44) (.call (.v (.lit (.func (.func 69) #[] #[]))) [(.t 42), (.t 43)]),
  .op (some 45) (.load 36 true (.t 5)),
  .op (some 46) (.eqA false [.int, .int, .int, .int, .int, .int, .int, .int, .int, .int, .int, .int, .int, .int, .int, .int, .int, .int, .int, .int, .int, .int, .int, .int, .int, .int, .int, .int, .int, .int, .int, .int, .int, .int, .int, .int] (.t 44) (.t 45)),
  .op (some 47) (.mv (.t 46)),
  .grp 47 true [((some 48), (.mv (.t 7))), ((some 49), (.mv (.t 4))), ((some 50), (.call (.v (.lit (.func (.func 76) #[] #[]))) [(.t 48), (.t 49)]))],
  .op (some 51) (.pick (.t 47) (.t 50) (.v (.lit (.bool false))))] [])
 (.cond (.t 51)
 (.reg [.op (some 52) (.mv (.t 7)),
  .op (some 4) (.mv (.t 52))])
 .skip)))))
 (.reg [.op (some 24) (.mv (.t 6)),
  .op (some 25) (.binI .add (.t 24) (.v (.lit (.int .i64 (1))))),
  .op (some 6) (.mv (.t 25))]))))))
 (.seq (.reg [.op (some 53) (.mv (.t 4)),
  .op (some 2) (.mv (.t 53)),
  .op (some 3) (.mv (.v (.lit (.bool true))))])
 .ret))))))
def rs39 : List RR := [.tmp 2, .tmp 3]
def cut39 : Nat → Nat := fun id => 0
theorem k39 : (Try.f39.body.bind fun c => comp Try.prog Try.f39.ntmps cut39 c) = some r39 := by kernel_rfl
theorem by39 {W0 : World} {σ : List Blk} {args : List AV} {K : Cont} (hn : args.length ≤ 54) (h : rW Try.prog W0 σ.length r39 (initFr args) σ (finP W0 rs39 σ.length K)) : ACall Try.prog W0 39 args σ K :=
  ACall.introR mixed Try.func39 (by kernel_rfl) k39 (by kernel_rfl) hn h
def r40 : RC := (.seq (.reg [.op (some 2) (.mv (.v (.lit (.slice none 0 0)))),
  .op (some 3) (.mv (.v (.lit (.bool false))))])
 (.seq (.reg [.op (some 11) (.mv (.t 0)),
  .op (some 12) (.call (.v (.lit (.func (.func 56) #[] #[]))) [(.t 11)]),
  .op (some 10) (.mv (.t 12)),
  .op (some 13) (.ext (.t 10) 0),
  .op (some 14) (.ext (.t 10) 1),
  .op (some 4) (.mv (.t 13)),
  .op (some 5) (.mv (.t 14))])
 (.seq (.seq (.reg [.op (some 15) (.mv (.t 5)),
  .op (some 16) (.un .not (.t 15))])
 (.cond (.t 16)
 (.seq (.reg [.op (some 2) (.mv (.v (.lit (.slice none 0 0)))),
  .op (some 3) (.mv (.v (.lit (.bool false))))])
 .ret)
 .skip))
 (.seq (.reg [.op (some 6) (.mv (.v (.lit (.slice none 0 0))))])
 (.seq (.seq (.reg [.op (some 17) (.mv (.t 4)),
  .op (some 18) (.lenL (.t 17)),
  .op (some 19) (.binI .shl (.v (.lit (.int .i64 (1)))) (.t 18)),
  .op (some 20) (.mv (.v (.lit (.int .i64 (0)))))])
 (.block 0 (.loop (.seq (.reg [.op (some 21) (.binI .lss (.t 20) (.t 19))])
 (.seq (.cond (.t 21)
 .skip
 (.exit 0))
 (.seq (.block 1 (.seq (.reg [.op (some 22) (.mv (.t 20)),
  .op (some 7) (.mv (.t 22))])
 (.seq (.reg [.op (some 23) (.bslice 3 1 0 [(.lit (.int .i64 (0)))] []),
  .op (some 8) (.mv (.t 23))])
 (.seq (.seq (.reg [.op (some 24) (.mv (.t 4)),
  .op (some 25) (.lenL (.t 24)),
  .op (some 26) (.mv (.v (.lit (.int .i64 (0)))))])
 (.block 2 (.loop (.seq (.reg [.op (some 27) (.binI .lss (.t 26) (.t 25))])
 (.seq (.cond (.t 27)
 .skip
 (.exit 2))
 (.seq (.block 3 (.seq (.reg [.op (some 28) (.mv (.t 26)),
  .op (some 9) (.mv (.t 28))])
 (.seq (.reg [.op (some 29) (.mv (.t 7)),
  .op (some 30) (.mv (.t 9)),
  .op (some 31) (.binI .shr (.t 29) (.t 30)),
  .op (some 32) (.binI .and (.t 31) (.v (.lit (.int .i64 (1))))),
  .op (some 33) (.binI .eql (.t 32) (.v (.lit (.int .i64 (1)))))])
 (.cond (.t 33)
 (.reg [.op (some 34) (.mv (.t 8)),
  .op (some 35) (.mv (.t 9)),
  .app (some 37) 36 3 1 8 (.t 34) 1 [(.lit (.int .i64 (0)))] [(0, (.t 35))],
  .op (some 8) (.mv (.t 37))])
 .skip))))
 (.reg [.op (some 38) (.binI .add (.t 26) (.v (.lit (.int .i64 (1))))),
  .op (some 26) (.mv (.t 38))])))))))
 (.seq (.seq (.reg [.op (some 39) (.mv (.t 4)),
  .op (some 40) (.mv (.t 8)),
  .op (some 41) (.call (.v (.lit (.func (.func 72) #[] #[]))) [(.t 39), (.t 40)]),
  .op (some 42) (.call (.v (.lit (.func (.func 71) #[] #[]))) [(.t 41)]),
  .op (some 43) (.mv (.t 4)),
  .op (some 44) (.call (.v (.lit (.func (.func 71) #[] #[]))) [(.t 43)]),
  .op (some 45) (.eqA true [.int, .int, .int, .int, .int, .int, .int, .int, .int, .int, .int, .int, .int, .int, .int, .int, .int, .int, .int, .int, .int, .int, .int, .int, .int, .int, .int, .int, .int, .int, .int, .int, .int, .int, .int, .int] (.t 42) (.t 44))])
 (.cond (.t 45)
 (.exit 1)
 .skip))
 (.seq (.reg [.op (some 46) (.mv (.t 6)),
  .op (some 47) (.nilS false (.t 46)),
  .op (some 48) (.mv (.t 47)),
  .grp 48 false [((some 49), (.mv (.t 8))), ((some 50), (.lenL (.t 49))), ((some 51), (.mv (.t 6))), ((some 52), (.lenL (.t 51))), ((some 53), (.binI .lss (.t 50) (.t 52)))],
  .op (some 54) (.pick (.t 48) (.v (.lit (.bool true))) (.t 53)),
  .op (some 55) (.mv (.t 54)),
  .grp 55 false [((some 56), (.mv (.t 8))), ((some 57), (.lenL (.t 56))), ((some 58), (.mv (.t 6))), ((some 59), (.lenL (.t 58))), ((some 60), (.binI .eql (.t 57) (.t 59))), ((some 61), (.mv (.t 60)))],
  .grp 61 true [((some 62), (.mv (.t 8))), ((some 63), (.mv (.t 6))), ((some 64), (.call (.v (.lit (.func (.func 77) #[] #[]))) [(.t 62), (.t 63)])), ((some 65), (.binI .lss (.t 64) (.v (.lit (.int .i64 (0))))))],
  .grp 55 false [((some 66), (.pick (.t 61) (.t 65) (.v (.lit (.bool false)))))],
  .op (some 67) (.pick (.t 55) (.v (.lit (.bool true))) (.t 66))])
 (.cond (.t 67)
 (.reg [.op (some 68) (.mv (.t 8)),
  .op (some 6) (.mv (.t 68))])
 .skip)))))))
 (.reg [.op (some 69) (.binI .add (.t 20) (.v (.lit (.int .i64 (1))))),
  .op (some 20) (.mv (.t 69))])))))))
 (.seq (.reg [.op (some 70) (.mv (.t 6)),
  .op (some 2) (.mv (.t 70)),
  .op (some 3) (.mv (.v (.lit (.bool true))))])
 .ret))))))
def rs40 : List RR := [.tmp 2, .tmp 3]
def cut40 : Nat → Nat := fun id => 0
theorem k40 : (Try.f40.body.bind fun c => comp Try.prog Try.f40.ntmps cut40 c) = some r40 := by kernel_rfl
theorem by40 {W0 : World} {σ : List Blk} {args : List AV} {K : Cont} (hn : args.length ≤ 71) (h : rW Try.prog W0 σ.length r40 (initFr args) σ (finP W0 rs40 σ.length K)) : ACall Try.prog W0 40 args σ K :=
  ACall.introR mixed Try.func40 (by kernel_rfl) k40 (by kernel_rfl) hn h
def r41 : RC := (.seq (.reg [.op (some 2) (.box 61 (.t 0)),
  .op (some 3) (.box 65 (.t 1)),
  .op (some 4) (.alloc 61 (List.replicate 14 (.lit (.int .i64 (0))))),
  .op (some 5) (.mv (.v (.lit (.bool false))))])
 (.seq (.seq (.reg [.op (some 6) (.load 14 true (.t 2)),
  .op (some 7) (.call (.v (.lit (.func (.func 78) #[] #[]))) [(.t 6)]),
  .op (some 8) (.un .not (.t 7))])
 (.cond (.t 8)
 (.seq (.reg [.op (some 9) (.build (List.replicate 14 (.lit (.int .i64 (0)))) []),
  .op none (.store 14 (.t 4) (.t 9)),
  .op (some 5) (.mv (.v (.lit (.bool false))))])
 .ret)
 .skip))
 (.seq (.reg [.op (some 10) (.load 14 true (.t 2)),
  .op (some 11) (.load 3 true (.t 3)),
  .op (some 12) (.call (.v (.lit (.func (.func 79) #[] #[]))) [(.t 10), (.t 11)]),
  .op (some 13) (.ext (.t 12) 0),
  .op (some 14) (.ext (.t 12) 1),
  .op none (.store 14 (.t 4) (.t 13)),
  .op (some 5) (.mv (.t 14))])
 .ret)))
def rs41 : List RR := [.cell 4 14 true, .tmp 5]
def cut41 : Nat → Nat := fun id => 0
theorem k41 : (Try.f41.body.bind fun c => comp Try.prog Try.f41.ntmps cut41 c) = some r41 := by kernel_rfl
theorem by41 {W0 : World} {σ : List Blk} {args : List AV} {K : Cont} (hn : args.length ≤ 15) (h : rW Try.prog W0 σ.length r41 (initFr args) σ (finP W0 rs41 σ.length K)) : ACall Try.prog W0 41 args σ K :=
  ACall.introR mixed Try.func41 (by kernel_rfl) k41 (by kernel_rfl) hn h
def r42 : RC := (.seq (.reg [.op (some 1) (.box 56 (.t 0)),
  .op (some 2) (.alloc 61 (List.replicate 14 (.lit (.int .i64 (0)))))])
 (.seq (.reg [.op (some 3) (.alloc 61 (List.replicate 14 (.lit (.int .i64 (0)))))])
 (.seq (.reg [.op (some 4) (.faddr 0 (.t 1)),
  .op (some 5) (.load 6 true (.t 4)),
  .op (some 6) (.call (.v (.lit (.func (.func 80) #[] #[]))) [(.t 5)]),
  .op (some 7) (.faddr 0 (.t 3)),
  .op none (.store 6 (.t 7) (.t 6))])
 (.seq (.reg [.op (some 8) (.faddr 6 (.t 1)),
  .op (some 9) (.load 6 true (.t 8)),
  .op (some 10) (.call (.v (.lit (.func (.func 80) #[] #[]))) [(.t 9)]),
  .op (some 11) (.faddr 6 (.t 3)),
  .op none (.store 6 (.t 11) (.t 10))])
 (.seq (.reg [.op (some 12) (.faddr 12 (.t 1)),
  .op (some 13) (.load 1 false (.t 12)),
  .op (some 14) (.faddr 12 (.t 3)),
  .op none (.store 1 (.t 14) (.t 13))])
 (.seq (.reg [.op (some 15) (.faddr 13 (.t 1)),
  .op (some 16) (.load 1 false (.t 15)),
  .op (some 17) (.faddr 13 (.t 3)),
  .op none (.store 1 (.t 17) (.t 16))])
 (.seq (.reg [.op (some 18) (.load 14 true (.t 3)),
  .op none (.store 14 (.t 2) (.t 18))])
 .ret)))))))
def rs42 : List RR := [.cell 2 14 true]
def cut42 : Nat → Nat := fun id => 0
theorem k42 : (Try.f42.body.bind fun c => comp Try.prog Try.f42.ntmps cut42 c) = some r42 := by kernel_rfl
theorem by42 {W0 : World} {σ : List Blk} {args : List AV} {K : Cont} (hn : args.length ≤ 19) (h : rW Try.prog W0 σ.length r42 (initFr args) σ (finP W0 rs42 σ.length K)) : ACall Try.prog W0 42 args σ K :=
  ACall.introR mixed Try.func42 (by kernel_rfl) k42 (by kernel_rfl) hn h
def r43 : RC := (.seq (.reg [.op (some 1) (.box 58 (.t 0)),
  .op (some 2) (.alloc 65 [(.lit (.int .i64 (0))), (.lit (.int .i64 (0))), (.lit (.int .i64 (0)))])])
 (.seq (.reg [.op (some 3) (.alloc 65 [(.lit (.int .i64 (0))), (.lit (.int .i64 (0))), (.lit (.int .i64 (0)))])])
 (.seq (.reg [.op (some 4) (.faddr 0 (.t 1)),
  .op (some 5) (.load 1 false (.t 4)),
  .op (some 6) (.faddr 0 (.t 3)),
  .op none (.store 1 (.t 6) (.t 5))])
 (.seq (.reg [.op (some 7) (.faddr 1 (.t 1)),
  .op (some 8) (.load 1 false (.t 7)),
  .op (some 9) (.faddr 1 (.t 3)),
  .op none (.store 1 (.t 9) (.t 8))])
 (.seq (.reg [.op (some 10) (.faddr 2 (.t 1)),
  .op (some 11) (.load 1 false (.t 10)),
  .op (some 12) (.faddr 2 (.t 3)),
  .op none (.store 1 (.t 12) (.t 11))])
 (.seq (.reg [.op (some 13) (.load 3 true (.t 3)),
  .op none (.store 3 (.t 2) (.t 13))])
 .ret))))))
def rs43 : List RR := [.cell 2 3 true]
def cut43 : Nat → Nat := fun id => 0
theorem k43 : (Try.f43.body.bind fun c => comp Try.prog Try.f43.ntmps cut43 c) = some r43 := by kernel_rfl
theorem by43 {W0 : World} {σ : List Blk} {args : List AV} {K : Cont} (hn : args.length ≤ 14) (h : rW Try.prog W0 σ.length r43 (initFr args) σ (finP W0 rs43 σ.length K)) : ACall Try.prog W0 43 args σ K :=
  ACall.introR mixed Try.func43 (by kernel_rfl) k43 (by kernel_rfl) hn h
def r44 : RC := (.seq (.reg [.op (some 2) (.box 61 (.t 0)),
  .op (some 3) (.box 65 (.t 1)),
  .op (some 4) (.alloc 61 (List.replicate 14 (.lit (.int .i64 (0))))),
  .op (some 5) (.mv (.v (.lit (.bool false))))])
 (.seq (.seq (.reg [.op (some 8) (.load 14 true (.t 2)),
  .op (some 9) (.call (.v (.lit (.func (.func 81) #[] #[]))) [(.t 8)]),
  .op (some 10) (.un .not (.t 9))])
 (.cond (.t 10)
 (.seq (.reg [.op (some 11) (.build (List.replicate 14 (.lit (.int .i64 (0)))) []),
  .op none (.store 14 (.t 4) (.t 11)),
  .op (some 5) (.mv (.v (.lit (.bool false))))])
 .ret)
 .skip))
 (.seq (.reg [.op (some 13) (.load 14 true (.t 2)),
  .op (some 14) (.load 3 true (.t 3)),
  .op (some 15) (.call (.v (.lit (.func (.func 82) #[] #[]))) [(.t 13), (.t 14)]),
  .op (some 12) (.mv (.t 15)),
  .op (some 16) (.ext (.t 12) 0),
  .op (some 17) (.ext (.t 12) 1),
  .op (some 6) (.alloc 61 (List.replicate 14 (.lit (.int .i64 (0))))),
  .op none (.store 14 (.t 6) (.t 16)),
  .op (some 7) (.mv (.t 17))])
 (.seq (.seq (.reg [.op (some 18) (.mv (.t 7)),
  .op (some 19) (.un .not (.t 18))])
 (.cond (.t 19)
 (.seq (.reg [.op (some 20) (.build (List.replicate 14 (.lit (.int .i64 (0)))) []),
  .op none (.store 14 (.t 4) (.t 20)),
  .op (some 5) (.mv (.v (.lit (.bool false))))])
 .ret)
 .skip))
 (.seq (.reg [.op (some 21) (.load 14 true (.t 6)),
  .op none (.store 14 (.t 4) (.t 21)),
  .op (some 5) (.mv (.v (.lit (.bool true))))])
 .ret)))))
def rs44 : List RR := [.cell 4 14 true, .tmp 5]
def cut44 : Nat → Nat := fun id => 0
theorem k44 : (Try.f44.body.bind fun c => comp Try.prog Try.f44.ntmps cut44 c) = some r44 := by kernel_rfl
theorem by44 {W0 : World} {σ : List Blk} {args : List AV} {K : Cont} (hn : args.length ≤ 22) (h : rW Try.prog W0 σ.length r44 (initFr args) σ (finP W0 rs44 σ.length K)) : ACall Try.prog W0 44 args σ K :=
  ACall.introR mixed Try.func44 (by kernel_rfl) k44 (by kernel_rfl) hn h
def r45 : RC := (.seq (.reg [.op (some 2) (.box 61 (.t 0)),
  .op (some 3) (.box 61 (.t 1)),
  .op (some 4) (.mv (.v (.lit (.bool false))))])
 (.seq (.seq (.reg [.op (some 5) (.faddr 0 (.t 2)),
  .op (some 6) (.load 6 true (.t 5)),
  .op (some 7) (.faddr 0 (.t 3)),
  .op (some 8) (.load 6 true (.t 7)),
  .op (some 9) (.call (.v (.lit (.func (.func 83) #[] #[]))) [(.t 6), (.t 8)]),
  .op (some 10) (.un .not (.t 9))])
 (.cond (.t 10)
 (.seq (.reg [.op (some 4) (.mv (.v (.lit (.bool false))))])
 .ret)
 .skip))
 (.seq (.seq (.reg [.op (some 11) (.faddr 6 (.t 2)),
  .op (some 12) (.load 6 true (.t 11)),
  .op (some 13) (.faddr 6 (.t 3)),
  .op (some 14) (.load 6 true (.t 13)),
  .op (some 15) (.call (.v (.lit (.func (.func 83) #[] #[]))) [(.t 12), (.t 14)]),
  .op (some 16) (.un .not (.t 15))])
 (.cond (.t 16)
 (.seq (.reg [.op (some 4) (.mv (.v (.lit (.bool false))))])
 .ret)
 .skip))
 (.seq (.seq (.reg [.op (some 17) (.faddr 12 (.t 2)),
  .op (some 18) (.load 1 false (.t 17)),
  .op (some 19) (.faddr 12 (.t 3)),
  .op (some 20) (.load 1 false (.t 19)),
  .op (some 21) (.binI .neq (.t 18) (.t 20))])
 (.cond (.t 21)
 (.seq (.reg [.op (some 4) (.mv (.v (.lit (.bool false))))])
 .ret)
 .skip))
 (.seq (.seq (.reg [.op (some 22) (.faddr 13 (.t 2)),
  .op (some 23) (.load 1 false (.t 22)),
  .op (some 24) (.faddr 13 (.t 3)),
  .op (some 25) (.load 1 false (.t 24)),
  .op (some 26) (.binI .neq (.t 23) (.t 25))])
 (.cond (.t 26)
 (.seq (.reg [.op (some 4) (.mv (.v (.lit (.bool false))))])
 .ret)
 .skip))
 (.seq (.reg [.op (some 4) (.mv (.v (.lit (.bool true))))])
 .ret))))))
def rs45 : List RR := [.tmp 4]
def cut45 : Nat → Nat := fun id => 0
theorem k45 : (Try.f45.body.bind fun c => comp Try.prog Try.f45.ntmps cut45 c) = some r45 := by kernel_rfl
theorem by45 {W0 : World} {σ : List Blk} {args : List AV} {K : Cont} (hn : args.length ≤ 27) (h : rW Try.prog W0 σ.length r45 (initFr args) σ (finP W0 rs45 σ.length K)) : ACall Try.prog W0 45 args σ K :=
  ACall.introR mixed Try.func45 (by kernel_rfl) k45 (by kernel_rfl) hn h
def r46 : RC := (.seq (.reg [.op (some 4) (.mv (.v (.lit (.int .i64 (0)))))])
 (.seq (.reg [.op (some 5) (.mv (.t 1)),
  .op (some 6) (.mv (.t 0)),
  .op (some 7) (.lenL (.t 6)),
  .op (some 8) (.binI .sub (.t 5) (.t 7)),
  .op (some 1) (.mv (.t 8))])
 (.seq (.seq (.reg [.op (some 9) (.mv (.t 1)),
  .op (some 10) (.binI .lss (.t 9) (.v (.lit (.int .i64 (0)))))])
 (.cond (.t 10)
 (.seq (.reg [.op (some 4) (.mv (.v (.lit (.int .i64 (-1)))))])
 .ret)
 .skip))
 (.seq (.reg [.op (some 11) (.mv (.t 1)),
  .op (some 4) (.mv (.t 11))])
 .ret))))
def rs46 : List RR := [.tmp 4]
def cut46 : Nat → Nat := fun id => 0
theorem k46 : (Try.f46.body.bind fun c => comp Try.prog Try.f46.ntmps cut46 c) = some r46 := by kernel_rfl
theorem by46 {W0 : World} {σ : List Blk} {args : List AV} {K : Cont} (hn : args.length ≤ 12) (h : rW Try.prog W0 σ.length r46 (initFr args) σ (finP W0 rs46 σ.length K)) : ACall Try.prog W0 46 args σ K :=
  ACall.introR mixed Try.func46 (by kernel_rfl) k46 (by kernel_rfl) hn h
def r47 : RC := (.seq (.reg [.op (some 2) (.box 61 (.t 0)),
  .op (some 4) (.alloc 61 (List.replicate 14 (.lit (.int .i64 (0))))),
  .op (some 5) (.mv (.v (.lit (.int .i64 (0))))),
  .op (some 6) (.mv (.v (.lit (.bool false))))])
 (.seq (.seq (.reg [.op (some 11) (.load 14 true (.t 2)),
  .op (some 12) (.call (.v (.lit (.func (.func 78) #[] #[]))) [(.t 11)]),
  .op (some 13) (.un .not (.t 12))])
 (.cond (.t 13)
 (.seq (.reg [.op (some 14) (.build (List.replicate 14 (.lit (.int .i64 (0)))) []),
  .op none (.store 14 (.t 4) (.t 14)),
  .op (some 5) (.mv (.v (.lit (.int .i64 (0))))),
  .op (some 6) (.mv (.v (.lit (.bool false))))])
 .ret)
 .skip))
 (.seq (.reg [.op (some 15) (.load 14 true (.t 2)),
  .op (some 7) (.alloc 61 (List.replicate 14 (.lit (.int .i64 (0))))),
  .op none (.store 14 (.t 7) (.t 15))])
 (.seq (.seq (.reg [.op (some 8) (.mv (.v (.lit (.int .i64 (0)))))])
 (.block 0 (.loop (.seq (.seq (.reg [.op (some 16) (.mv (.t 8)),
  .op (some 17) (.mv (.t 1)),
  .op (some 18) (.lenL (.t 17)),
  .op (some 19) (.binI .lss (.t 16) (.t 18))])
 (.cond (.t 19)
 .skip
 (.exit 0)))
 (.seq (.block 1 (.seq (.draw [((some 23), (.load 14 true (.t 7))), ((some 24), (.mv (.t 1))), ((some 25), (.mv (.t 8))), ((some 26), (.iaddrS 3 (.t 24) (.t 25))), ((some 27), (.load 3 true (.t 26))), ((some 28), (.call (.v (.lit (.func (.func 79) #[] #[]))) [(.t 23), (.t 27)])), ((some 22), (.mv (.t 28))), ((some 29), (.ext (.t 22) 0)), ((some 30), (.ext (.t 22) 1))] [((some 9), (.alloc 61 (List.replicate 14 (.lit (.int .i64 (0)))))), (none, (.store 14 (.t 9) (.t 29))), ((some 10), (.mv (.t 30)))])
 (.seq (.seq (.reg [.op (some 31) (.mv (.t 10)),
  .op (some 32) (.un .not (.t 31))])
 (.cond (.t 32)
 (.seq (.reg [.op (some 33) (.load 14 true (.t 7)),
  .op (some 34) (.mv (.t 8)),
  .op none (.store 14 (.t 4) (.t 33)),
  .op (some 5) (.mv (.t 34)),
  .op (some 6) (.mv (.v (.lit (.bool true))))])
 .ret)
 .skip))
 (.reg [.op (some 35) (.load 14 true (.t 9)),
  .op none (.store 14 (.t 7) (.t 35))]))))
 (.reg [.op (some 20) (.mv (.t 8)),
  .op (some 21) (.binI .add (.t 20) (.v (.lit (.int .i64 (1))))),
  .op (some 8) (.mv (.t 21))]))))))
 (.seq (.reg [.op (some 36) (.load 14 true (.t 7)),
  .op (some 37) (.mv (.t 1)),
  .op (some 38) (.lenL (.t 37)),
  .op none (.store 14 (.t 4) (.t 36)),
  .op (some 5) (.mv (.t 38)),
  .op (some 6) (.mv (.v (.lit (.bool true))))])
 .ret)))))
def rs47 : List RR := [.cell 4 14 true, .tmp 5, .tmp 6]
def cut47 : Nat → Nat := fun id => if id = 7 then 19 else 0
theorem k47 : (Try.f47.body.bind fun c => comp Try.prog Try.f47.ntmps cut47 c) = some r47 := by kernel_rfl
theorem by47 {W0 : World} {σ : List Blk} {args : List AV} {K : Cont} (hn : args.length ≤ 39) (h : rW Try.prog W0 σ.length r47 (initFr args) σ (finP W0 rs47 σ.length K)) : ACall Try.prog W0 47 args σ K :=
  ACall.introR mixed Try.func47 (by kernel_rfl) k47 (by kernel_rfl) hn h
def r48 : RC := (.seq (.reg [.op (some 2) (.mv (.v (.lit (.slice none 0 0))))])
 (.seq (.reg [.op (some 5) (.mv (.t 0)),
  .op (some 6) (.lenL (.t 5)),
  .op (some 7) (.mkslice 65 3 24 [(.lit (.int .i64 (0))), (.lit (.int .i64 (0))), (.lit (.int .i64 (0)))] (.t 6) (.t 6)),
  .op (some 3) (.mv (.t 7))])
 (.seq (.seq (.reg [.op (some 4) (.mv (.v (.lit (.int .i64 (0)))))])
 (.block 0 (.loop (.seq (.seq (.reg [.op (some 8) (.mv (.t 4)),
  .op (some 9) (.mv (.t 0)),
  .op (some 10) (.lenL (.t 9)),
  .op (some 11) (.binI .lss (.t 8) (.t 10))])
 (.cond (.t 11)
 .skip
 (.exit 0)))
 (.seq (.block 1 (.reg [.op (some 14) (.mv (.t 3)),
  .op (some 15) (.mv (.t 4)),
  .op (some 16) (.mv (.t 0)),
  .op (some 17) (.mv (.t 4)),
  .op (some 18) (.iaddrS 3 (.t 16) (.t 17)),
  .op (some 19) (.load 3 true (.t 18)),
  .op (some 20) (.call (.v (.lit (.func (.func 43) #[] #[]))) [(.t 19)]),
  .op (some 21) (.iaddrS 3 (.t 14) (.t 15)),
  .op none (.store 3 (.t 21) (.t 20))]))
 (.reg [.op (some 12) (.mv (.t 4)),
  .op (some 13) (.binI .add (.t 12) (.v (.lit (.int .i64 (1))))),
  .op (some 4) (.mv (.t 13))]))))))
 (.seq (.reg [.op (some 22) (.mv (.t 3)),
  .op (some 2) (.mv (.t 22))])
 .ret))))
def rs48 : List RR := [.tmp 2]
def cut48 : Nat → Nat := fun id => 0
theorem k48 : (Try.f48.body.bind fun c => comp Try.prog Try.f48.ntmps cut48 c) = some r48 := by kernel_rfl
theorem by48 {W0 : World} {σ : List Blk} {args : List AV} {K : Cont} (hn : args.length ≤ 23) (h : rW Try.prog W0 σ.length r48 (initFr args) σ (finP W0 rs48 σ.length K)) : ACall Try.prog W0 48 args σ K :=
  ACall.introR mixed Try.func48 (by kernel_rfl) k48 (by kernel_rfl) hn h
def r49 : RC := (.seq (.reg [.op (some 2) (.box 61 (.t 0)),
  .op (some 4) (.alloc 61 (List.replicate 14 (.lit (.int .i64 (0))))),
  .op (some 5) (.mv (.v (.lit (.int .i64 (0))))),
  .op (some 6) (.mv (.v (.lit (.bool false))))])
 (.seq (.seq (.reg [.op (some 11) (.load 14 true (.t 2)),
  .op (some 12) (.call (.v (.lit (.func (.func 81) #[] #[]))) [(.t 11)]),
  .op (some 13) (.un .not (.t 12))])
 (.cond (.t 13)
 (.seq (.reg [.op (some 14) (.build (List.replicate 14 (.lit (.int .i64 (0)))) []),
  .op none (.store 14 (.t 4) (.t 14)),
  .op (some 5) (.mv (.v (.lit (.int .i64 (0))))),
  .op (some 6) (.mv (.v (.lit (.bool false))))])
 .ret)
 .skip))
 (.seq (.seq (.reg [.op (some 15) (.mv (.t 1)),
  .op (some 16) (.lenL (.t 15)),
  .op (some 17) (.mv (.v (.lit (.int .i64 (0)))))])
 (.block 0 (.loop (.seq (.reg [.op (some 18) (.binI .lss (.t 17) (.t 16))])
 (.seq (.cond (.t 18)
 .skip
 (.exit 0))
 (.seq (.block 1 (.seq (.reg [.op (some 19) (.mv (.t 17)),
  .op (some 20) (.iaddrS 3 (.t 15) (.t 17)),
  .op (some 21) (.load 3 true (.t 20)),
  .op (some 8) (.alloc 65 [(.lit (.int .i64 (0))), (.lit (.int .i64 (0))), (.lit (.int .i64 (0)))]),
  .op (some 7) (.mv (.t 19)),
  .op none (.store 3 (.t 8) (.t 21))])
 (.seq (.reg [.op (some 23) (.load 14 true (.t 2)),
  .op (some 24) (.load 3 true (.t 8)),
  .op (some 25) (.call (.v (.lit (.func (.func 82) #[] #[]))) [(.t 23), (.t 24)]),
  .op (some 22) (.mv (.t 25)),
  .op (some 26) (.ext (.t 22) 0),
  .op (some 27) (.ext (.t 22) 1),
  .op (some 9) (.alloc 61 (List.replicate 14 (.lit (.int .i64 (0))))),
  .op none (.store 14 (.t 9) (.t 26)),
  .op (some 10) (.mv (.t 27))])
 (.seq (.seq (.reg [.op (some 28) (.mv (.t 10)),
  .op (some 29) (.un .not (.t 28))])
 (.cond (.t 29)
 (.seq (.reg [.op (some 30) (.load 14 true (.t 2)),
  .op (some 31) (.mv (.t 7)),
  .op none (.store 14 (.t 4) (.t 30)),
  .op (some 5) (.mv (.t 31)),
  .op (some 6) (.mv (.v (.lit (.bool true))))])
 .ret)
 .skip))
 (.reg [.op (some 32) (.load 14 true (.t 9)),
  .op none (.store 14 (.t 2) (.t 32))])))))
 (.reg [.op (some 33) (.binI .add (.t 17) (.v (.lit (.int .i64 (1))))),
  .op (some 17) (.mv (.t 33))])))))))
 (.seq (.reg [.op (some 34) (.load 14 true (.t 2)),
  .op (some 35) (.mv (.t 1)),
  .op (some 36) (.lenL (.t 35)),
  .op none (.store 14 (.t 4) (.t 34)),
  .op (some 5) (.mv (.t 36)),
  .op (some 6) (.mv (.v (.lit (.bool true))))])
 .ret))))
def rs49 : List RR := [.cell 4 14 true, .tmp 5, .tmp 6]
def cut49 : Nat → Nat := fun id => 0
theorem k49 : (Try.f49.body.bind fun c => comp Try.prog Try.f49.ntmps cut49 c) = some r49 := by kernel_rfl
theorem by49 {W0 : World} {σ : List Blk} {args : List AV} {K : Cont} (hn : args.length ≤ 37) (h : rW Try.prog W0 σ.length r49 (initFr args) σ (finP W0 rs49 σ.length K)) : ACall Try.prog W0 49 args σ K :=
  ACall.introR mixed Try.func49 (by kernel_rfl) k49 (by kernel_rfl) hn h
def r50 : RC := (.seq (.reg [.op (some 4) (.mv (.v (.lit (.bool false))))])
 (.seq (.seq (.reg [.op (some 6) (.mv (.t 0)),
  .op (some 7) (.lenL (.t 6)),
  .op (some 8) (.mv (.t 1)),
  .op (some 9) (.lenL (.t 8)),
  .op (some 10) (.binI .neq (.t 7) (.t 9))])
 (.cond (.t 10)
 (.seq (.reg [.op (some 4) (.mv (.v (.lit (.bool false))))])
 .ret)
 .skip))
 (.seq (.seq (.reg [.op (some 5) (.mv (.v (.lit (.int .i64 (0)))))])
 (.block 0 (.loop (.seq (.seq (.reg [.op (some 11) (.mv (.t 5)),
  .op (some 12) (.mv (.t 0)),
  .op (some 13) (.lenL (.t 12)),
  .op (some 14) (.binI .lss (.t 11) (.t 13))])
 (.cond (.t 14)
 .skip
 (.exit 0)))
 (.seq (.block 1 (.seq (.draw [((some 17), (.mv (.t 0))), ((some 18), (.mv (.t 5))), ((some 19), (.iaddrS 3 (.t 17) (.t 18))), ((some 20), (.load 3 true (.t 19))), ((some 21), (.mv (.t 1))), ((some 22), (.mv (.t 5))), ((some 23), (.iaddrS 3 (.t 21) (.t 22))), ((some 24), (.load 3 true (.t 23))), ((some 25), (.call (.v (.lit (.func (.func 84) #[] #[]))) [(.t 20), (.t 24)])), ((some 26), (.un .not (.t 25)))] [])
 (.cond (.t 26)
 (.seq (.reg [.op (some 4) (.mv (.v (.lit (.bool false))))])
 .ret)
 .skip)))
 (.reg [.op (some 15) (.mv (.t 5)),
  .op (some 16) (.binI .add (.t 15) (.v (.lit (.int .i64 (1))))),
  .op (some 5) (.mv (.t 16))]))))))
 (.seq (.reg [.op (some 4) (.mv (.v (.lit (.bool true))))])
 .ret))))
def rs50 : List RR := [.tmp 4]
def cut50 : Nat → Nat := fun id => if id = 6 then 21 else 0
theorem k50 : (Try.f50.body.bind fun c => comp Try.prog Try.f50.ntmps cut50 c) = some r50 := by kernel_rfl
theorem by50 {W0 : World} {σ : List Blk} {args : List AV} {K : Cont} (hn : args.length ≤ 27) (h : rW Try.prog W0 σ.length r50 (initFr args) σ (finP W0 rs50 σ.length K)) : ACall Try.prog W0 50 args σ K :=
  ACall.introR mixed Try.func50 (by kernel_rfl) k50 (by kernel_rfl) hn h
def r51 : RC := (.seq (.reg [.op (some 2) (.mv (.v (.lit (.bool false))))])
 (.seq (.seq (.reg [.op (some 3) (.mv (.v (.lit (.int .i64 (0)))))])
 (.block 0 (.loop (.seq (.seq (.reg [.op (some 4) (.mv (.t 3)),
  .op (some 5) (.mv (.t 0)),
  .op (some 6) (.lenL (.t 5)),
  .op (some 7) (.binI .lss (.t 4) (.t 6)),
  .op (some 8) (.mv (.t 7)),
  .grp 8 true [((some 9), (.mv (.t 3))), ((some 10), (.binI .leq (.t 9) (.v (.lit (.int .i64 (6))))))],
  .op (some 11) (.pick (.t 8) (.t 10) (.v (.lit (.bool false))))])
 (.cond (.t 11)
 .skip
 (.exit 0)))
 (.seq (.block 1 (.seq (.reg [.op (some 14) (.mv (.t 0)),
  .op (some 15) (.mv (.t 3)),
  .op (some 16) (.iaddrS 9 (.t 14) (.t 15)),
  .op (some 17) (.load 9 true (.t 16)),
  .op (some 18) (.call (.v (.lit (.func (.func 85) #[] #[]))) [(.t 17)]),
  .op (some 19) (.un .not (.t 18))])
 (.cond (.t 19)
 (.seq (.reg [.op (some 2) (.mv (.v (.lit (.bool false))))])
 .ret)
 .skip)))
 (.reg [.op (some 12) (.mv (.t 3)),
  .op (some 13) (.binI .add (.t 12) (.v (.lit (.int .i64 (1))))),
  .op (some 3) (.mv (.t 13))]))))))
 (.seq (.reg [.op (some 20) (.mv (.t 0)),
  .op (some 21) (.lenL (.t 20)),
  .op (some 22) (.binI .leq (.t 21) (.v (.lit (.int .i64 (6))))),
  .op (some 2) (.mv (.t 22))])
 .ret)))
def rs51 : List RR := [.tmp 2]
def cut51 : Nat → Nat := fun id => 0
theorem k51 : (Try.f51.body.bind fun c => comp Try.prog Try.f51.ntmps cut51 c) = some r51 := by kernel_rfl
theorem by51 {W0 : World} {σ : List Blk} {args : List AV} {K : Cont} (hn : args.length ≤ 23) (h : rW Try.prog W0 σ.length r51 (initFr args) σ (finP W0 rs51 σ.length K)) : ACall Try.prog W0 51 args σ K :=
  ACall.introR mixed Try.func51 (by kernel_rfl) k51 (by kernel_rfl) hn h
def r52 : RC := (.seq (.reg [.op (some 1) (.box 59 (.t 0)),
  .op (some 2) (.mv (.v (.lit (.int .i64 (0)))))])
 (.seq (.reg [.op (some 3) (.mv (.v (.lit (.int .i64 (0)))))])
 (.seq (.seq (.reg [.op (some 4) (.mv (.v (.lit (.int .i64 (0)))))])
 (.block 0 (.loop (.seq (.seq (.reg [.op (some 6) (.mv (.t 4)),
  .op (some 7) (.binI .lss (.t 6) (.v (.lit (.int .i64 (6)))))])
 (.cond (.t 7)
 .skip
 (.exit 0)))
 (.seq (.block 1 (.seq (.reg [.op (some 10) (.mv (.t 4)),
  .op (some 11) (.faddr 0 (.t 1)),
  .op (some 12) (.iaddrA 6 1 (.t 11) (.t 10)),
  .op (some 13) (.load 1 false (.t 12)),
  .op (some 5) (.mv (.t 13))])
 (.block 2 (.loop (.seq (.seq (.reg [.op (some 14) (.mv (.t 5)),
  .op (some 15) (.binI .gtr (.t 14) (.v (.lit (.int .i64 (0)))))])
 (.cond (.t 15)
 .skip
 (.exit 2)))
 (.seq (.block 3 (.reg [.op (some 18) (.mv (.t 3)),
  .op (some 19) (.mv (.t 5)),
  .op (some 20) (.binI .rem (.t 19) (.v (.lit (.int .i64 (2))))),
  .op (some 21) (.binI .add (.t 18) (.t 20)),
  .op (some 3) (.mv (.t 21))]))
 (.reg [.op (some 16) (.mv (.t 5)),
  .op (some 17) (.binI .quo (.t 16) (.v (.lit (.int .i64 (2))))),
  .op (some 5) (.mv (.t 17))])))))))
 (.reg [.op (some 8) (.mv (.t 4)),
  .op (some 9) (.binI .add (.t 8) (.v (.lit (.int .i64 (1))))),
  .op (some 4) (.mv (.t 9))]))))))
 (.seq (.reg [.op (some 22) (.mv (.t 3)),
  .op (some 2) (.mv (.t 22))])
 .ret))))
def rs52 : List RR := [.tmp 2]
def cut52 : Nat → Nat := fun id => 0
theorem k52 : (Try.f52.body.bind fun c => comp Try.prog Try.f52.ntmps cut52 c) = some r52 := by kernel_rfl
theorem by52 {W0 : World} {σ : List Blk} {args : List AV} {K : Cont} (hn : args.length ≤ 23) (h : rW Try.prog W0 σ.length r52 (initFr args) σ (finP W0 rs52 σ.length K)) : ACall Try.prog W0 52 args σ K :=
  ACall.introR mixed Try.func52 (by kernel_rfl) k52 (by kernel_rfl) hn h
def r53 : RC := (.seq (.reg [.op (some 2) (.box 59 (.t 0)),
  .op (some 3) (.box 59 (.t 1)),
  .op (some 4) (.alloc 59 (List.replicate 6 (.lit (.int .i64 (0)))))])
 (.seq (.seq (.reg [.op (some 5) (.mv (.v (.lit (.int .i64 (0)))))])
 (.block 0 (.loop (.seq (.seq (.reg [.op (some 6) (.mv (.t 5)),
  .op (some 7) (.binI .lss (.t 6) (.v (.lit (.int .i64 (6)))))])
 (.cond (.t 7)
 .skip
 (.exit 0)))
 (.seq (.block 1 (.quiet [.op (some 10) (.mv (.t 5)),
  .op (some 11) (.mv (.t 5)),
  .op (some 12) (.faddr 0 (.t 2)),
  .op (some 13) (.iaddrA 6 1 (.t 12) (.t 11)),
  .op (some 14) (.load 1 false (.t 13)),
  .op (some 15) (.mv (.t 5)),
  .op (some 16) (.faddr 0 (.t 3)),
  .op (some 17) (.iaddrA 6 1 (.t 16) (.t 15)),
  .op (some 18) (.load 1 false (.t 17)),
  .op (some 19) (.binI .and (.t 14) (.t 18)),
  .op (some 20) (.faddr 0 (.t 2)),
  .op (some 21) (.iaddrA 6 1 (.t 20) (.t 10))] [.op none (.store 1 (.t 21) (.t 19))]))
 (.reg [.op (some 8) (.mv (.t 5)),
  .op (some 9) (.binI .add (.t 8) (.v (.lit (.int .i64 (1))))),
  .op (some 5) (.mv (.t 9))]))))))
 (.seq (.reg [.op (some 22) (.load 6 true (.t 2)),
  .op none (.store 6 (.t 4) (.t 22))])
 .ret)))
def rs53 : List RR := [.cell 4 6 true]
def cut53 : Nat → Nat := fun id => if id = 4 then 24 else 0
theorem k53 : (Try.f53.body.bind fun c => comp Try.prog Try.f53.ntmps cut53 c) = some r53 := by kernel_rfl
theorem by53 {W0 : World} {σ : List Blk} {args : List AV} {K : Cont} (hn : args.length ≤ 23) (h : rW Try.prog W0 σ.length r53 (initFr args) σ (finP W0 rs53 σ.length K)) : ACall Try.prog W0 53 args σ K :=
  ACall.introR mixed Try.func53 (by kernel_rfl) k53 (by kernel_rfl) hn h
def r54 : RC := (.seq (.reg [.op (some 1) (.box 83 (.t 0)),
  .op (some 2) (.alloc 59 (List.replicate 6 (.lit (.int .i64 (0)))))])
 (.seq (.reg [.op (some 3) (.faddr 1 (.t 1)),
  .op (some 4) (.load 6 true (.t 3)),
  .op (some 5) (.faddr 7 (.t 1)),
  .op (some 6) (.load 2 true (.t 5)),
  .op (some 7) (.call (.v (.lit (.func (.func 86) #[] #[]))) [(.t 4), (.t 6)]),
  .op none (.store 6 (.t 2) (.t 7))])
 .ret))
def rs54 : List RR := [.cell 2 6 true]
def cut54 : Nat → Nat := fun id => 0
theorem k54 : (Try.f54.body.bind fun c => comp Try.prog Try.f54.ntmps cut54 c) = some r54 := by kernel_rfl
theorem by54 {W0 : World} {σ : List Blk} {args : List AV} {K : Cont} (hn : args.length ≤ 8) (h : rW Try.prog W0 σ.length r54 (initFr args) σ (finP W0 rs54 σ.length K)) : ACall Try.prog W0 54 args σ K :=
  ACall.introR mixed Try.func54 (by kernel_rfl) k54 (by kernel_rfl) hn h
def r55 : RC := (.seq (.reg [.op (some 1) (.box 86 (.t 0)),
  .op (some 2) (.alloc 83 (List.replicate 9 (.lit (.int .i64 (0)))))])
 (.seq (.reg [.op (some 3) (.alloc 83 (List.replicate 9 (.lit (.int .i64 (0)))))])
 (.seq (.reg [.op (some 4) (.faddr 0 (.t 1)),
  .op (some 5) (.load 1 false (.t 4)),
  .op (some 6) (.faddr 0 (.t 3)),
  .op none (.store 1 (.t 6) (.t 5))])
 (.seq (.reg [.op (some 7) (.faddr 1 (.t 1)),
  .op (some 8) (.load 6 true (.t 7)),
  .op (some 9) (.call (.v (.lit (.func (.func 80) #[] #[]))) [(.t 8)]),
  .op (some 10) (.faddr 1 (.t 3)),
  .op none (.store 6 (.t 10) (.t 9))])
 (.seq (.reg [.op (some 11) (.faddr 7 (.t 1)),
  .op (some 12) (.load 2 true (.t 11)),
  .op (some 13) (.call (.v (.lit (.func (.func 87) #[] #[]))) [(.t 12)]),
  .op (some 14) (.faddr 7 (.t 3)),
  .op none (.store 2 (.t 14) (.t 13))])
 (.seq (.reg [.op (some 15) (.load 9 true (.t 3)),
  .op none (.store 9 (.t 2) (.t 15))])
 .ret))))))
def rs55 : List RR := [.cell 2 9 true]
def cut55 : Nat → Nat := fun id => 0
theorem k55 : (Try.f55.body.bind fun c => comp Try.prog Try.f55.ntmps cut55 c) = some r55 := by kernel_rfl
theorem by55 {W0 : World} {σ : List Blk} {args : List AV} {K : Cont} (hn : args.length ≤ 16) (h : rW Try.prog W0 σ.length r55 (initFr args) σ (finP W0 rs55 σ.length K)) : ACall Try.prog W0 55 args σ K :=
  ACall.introR mixed Try.func55 (by kernel_rfl) k55 (by kernel_rfl) hn h
def r56 : RC := (.seq (.reg [.op (some 2) (.mv (.v (.lit (.slice none 0 0)))),
  .op (some 3) (.mv (.v (.lit (.bool false))))])
 (.seq (.reg [.op (some 9) (.bslice 93 2 0 [(.lit (.int .u64 (0))), (.lit (.int .i64 (0)))] []),
  .op (some 4) (.mv (.t 9))])
 (.seq (.seq (.reg [.op (some 10) (.mv (.t 0)),
  .op (some 11) (.lenL (.t 10)),
  .op (some 12) (.mv (.v (.lit (.int .i64 (0)))))])
 (.block 0 (.loop (.seq (.reg [.op (some 13) (.binI .lss (.t 12) (.t 11))])
 (.seq (.cond (.t 13)
 .skip
 (.exit 0))
 (.seq (.block 1 (.seq (.reg [.op (some 14) (.iaddrS 9 (.t 10) (.t 12)),
  .op (some 15) (.load 9 true (.t 14)),
  .op (some 6) (.alloc 83 (List.replicate 9 (.lit (.int .i64 (0))))),
  .op none (.store 9 (.t 6) (.t 15))])
 (.seq (.seq (.reg [.op (some 16) (.load 9 true (.t 6)),
  .op (some 17) (.call (.v (.lit (.func (.func 88) #[] #[]))) [(.t 16)]),
  .op (some 18) (.un .not (.t 17))])
 (.cond (.t 18)
 (.seq (.reg [.op (some 2) (.mv (.v (.lit (.slice none 0 0)))),
  .op (some 3) (.mv (.v (.lit (.bool false))))])
 .ret)
 .skip))
 (.seq (.reg [.op (some 20) (.faddr 1 (.t 6)),
  .op (some 21) (.load 6 true (.t 20)),
  .op (some 22) (.call (.v (.lit (.func (.func 89) #[] #[]))) [(.t 21)]),
  .op (some 19) (.mv (.t 22)),
  .op (some 23) (.ext (.t 19) 0),
  .op (some 24) (.ext (.t 19) 1),
  .op (some 7) (.mv (.t 23)),
  .op (some 8) (.mv (.t 24))])
 (.any true (.h ⟨none, (some 25), (.mv (.t 4))⟩
 (.n ⟨none, (some 26), (.mv (.t 7))⟩
 (.n ⟨none, (some 27), (.faddr 7 (.t 6))⟩
 (.n ⟨none, (some 28), (.load 2 true (.t 27))⟩
 (.n ⟨none, (some 29), (.call (.v (.lit (.func (.func 91) #[] #[]))) [(.t 28)])⟩
 (.n ⟨none, (some 30), (.call (.v (.lit (.func (.func 90) #[] #[]))) [(.t 26), (.t 29)])⟩
 (.n ⟨none, (some 31), (.faddr 0 (.t 6))⟩
 (.n ⟨none, (some 32), (.load 1 false (.t 31))⟩
 (.n ⟨none, (some 33), (.build [(.lit (.int .u64 (0))), (.lit (.int .i64 (0)))] [((0, 1), (.t 30)), ((1, 1), (.t 32))])⟩
 (.t ⟨none, (some 34), (.bslice 93 2 1 [(.lit (.int .u64 (0))), (.lit (.int .i64 (0)))] [(0, (.t 33))])⟩
 (.t ⟨none, (some 35), (.append 87 93 2 16 (.t 25) (.t 34))⟩
 (.n ⟨none, (some 4), (.mv (.t 35))⟩
 .fin)))))))))))))))))
 (.reg [.op (some 36) (.binI .add (.t 12) (.v (.lit (.int .i64 (1))))),
  .op (some 12) (.mv (.t 36))])))))))
 (.seq (.reg [.op (some 37) (.mv (.t 4)),
  .op (some 38) (.mv (.t 0)),
  .op (some 39) (.lenL (.t 38)),
  .op (some 40) (.binI .leq (.t 39) (.v (.lit (.int .i64 (6))))),
  .op (some 2) (.mv (.t 37)),
  .op (some 3) (.mv (.t 40))])
 .ret))))
def rs56 : List RR := [.tmp 2, .tmp 3]
def cut56 : Nat → Nat := fun id => if id = 8 then 1003073 else 0
theorem k56 : (Try.f56.body.bind fun c => comp Try.prog Try.f56.ntmps cut56 c) = some r56 := by kernel_rfl
theorem by56 {W0 : World} {σ : List Blk} {args : List AV} {K : Cont} (hn : args.length ≤ 41) (h : rW Try.prog W0 σ.length r56 (initFr args) σ (finP W0 rs56 σ.length K)) : ACall Try.prog W0 56 args σ K :=
  ACall.introR mixed Try.func56 (by kernel_rfl) k56 (by kernel_rfl) hn h
def r57 : RC := (.seq (.reg [.op (some 2) (.box 81 (.t 0)),
  .op (some 3) (.box 81 (.t 1)),
  .op (some 4) (.mv (.v (.lit (.bool false))))])
 (.seq (.seq (.reg [.op (some 5) (.mv (.v (.lit (.int .i64 (0)))))])
 (.block 0 (.loop (.seq (.seq (.reg [.op (some 6) (.mv (.t 5)),
  .op (some 7) (.binI .lss (.t 6) (.v (.lit (.int .i64 (2)))))])
 (.cond (.t 7)
 .skip
 (.exit 0)))
 (.seq (.block 1 (.seq (.draw [((some 10), (.mv (.t 5))), ((some 11), (.iaddrA 2 1 (.t 2) (.t 10))), ((some 12), (.load 1 false (.t 11))), ((some 13), (.mv (.t 5))), ((some 14), (.iaddrA 2 1 (.t 3) (.t 13))), ((some 15), (.load 1 false (.t 14))), ((some 16), (.binI .neq (.t 12) (.t 15)))] [])
 (.cond (.t 16)
 (.seq (.reg [.op (some 4) (.mv (.v (.lit (.bool false))))])
 .ret)
 .skip)))
 (.reg [.op (some 8) (.mv (.t 5)),
  .op (some 9) (.binI .add (.t 8) (.v (.lit (.int .i64 (1))))),
  .op (some 5) (.mv (.t 9))]))))))
 (.seq (.reg [.op (some 4) (.mv (.v (.lit (.bool true))))])
 .ret)))
def rs57 : List RR := [.tmp 4]
def cut57 : Nat → Nat := fun id => if id = 4 then 15 else 0
theorem k57 : (Try.f57.body.bind fun c => comp Try.prog Try.f57.ntmps cut57 c) = some r57 := by kernel_rfl
theorem by57 {W0 : World} {σ : List Blk} {args : List AV} {K : Cont} (hn : args.length ≤ 17) (h : rW Try.prog W0 σ.length r57 (initFr args) σ (finP W0 rs57 σ.length K)) : ACall Try.prog W0 57 args σ K :=
  ACall.introR mixed Try.func57 (by kernel_rfl) k57 (by kernel_rfl) hn h
def r58 : RC := (.seq (.reg [.op (some 2) (.box 83 (.t 0)),
  .op (some 3) (.box 83 (.t 1)),
  .op (some 4) (.mv (.v (.lit (.bool false))))])
 (.seq (.seq (.reg [.op (some 5) (.faddr 0 (.t 2)),
  .op (some 6) (.load 1 false (.t 5)),
  .op (some 7) (.faddr 0 (.t 3)),
  .op (some 8) (.load 1 false (.t 7)),
  .op (some 9) (.binI .neq (.t 6) (.t 8))])
 (.cond (.t 9)
 (.seq (.reg [.op (some 4) (.mv (.v (.lit (.bool false))))])
 .ret)
 .skip))
 (.seq (.seq (.reg [.op (some 10) (.faddr 1 (.t 2)),
  .op (some 11) (.load 6 true (.t 10)),
  .op (some 12) (.faddr 1 (.t 3)),
  .op (some 13) (.load 6 true (.t 12)),
  .op (some 14) (.call (.v (.lit (.func (.func 83) #[] #[]))) [(.t 11), (.t 13)]),
  .op (some 15) (.un .not (.t 14))])
 (.cond (.t 15)
 (.seq (.reg [.op (some 4) (.mv (.v (.lit (.bool false))))])
 .ret)
 .skip))
 (.seq (.seq (.reg [.op (some 16) (.faddr 7 (.t 2)),
  .op (some 17) (.load 2 true (.t 16)),
  .op (some 18) (.faddr 7 (.t 3)),
  .op (some 19) (.load 2 true (.t 18)),
  .op (some 20) (.call (.v (.lit (.func (.func 57) #[] #[]))) [(.t 17), (.t 19)]),
  .op (some 21) (.un .not (.t 20))])
 (.cond (.t 21)
 (.seq (.reg [.op (some 4) (.mv (.v (.lit (.bool false))))])
 .ret)
 .skip))
 (.seq (.reg [.op (some 4) (.mv (.v (.lit (.bool true))))])
 .ret)))))
def rs58 : List RR := [.tmp 4]
def cut58 : Nat → Nat := fun id => 0
theorem k58 : (Try.f58.body.bind fun c => comp Try.prog Try.f58.ntmps cut58 c) = some r58 := by kernel_rfl
theorem by58 {W0 : World} {σ : List Blk} {args : List AV} {K : Cont} (hn : args.length ≤ 22) (h : rW Try.prog W0 σ.length r58 (initFr args) σ (finP W0 rs58 σ.length K)) : ACall Try.prog W0 58 args σ K :=
  ACall.introR mixed Try.func58 (by kernel_rfl) k58 (by kernel_rfl) hn h
def r59 : RC := (.seq (.reg [.op (some 2) (.mv (.v (.lit (.slice none 0 0))))])
 (.seq (.reg [.op (some 7) (.mv (.t 0)),
  .op (some 8) (.lenL (.t 7)),
  .op (some 9) (.mkslice 59 6 48 (List.replicate 6 (.lit (.int .i64 (0)))) (.t 8) (.t 8)),
  .op (some 10) (.build (List.replicate 6 (.lit (.int .i64 (0)))) []),
  .op (some 4) (.alloc 59 (List.replicate 6 (.lit (.int .i64 (0))))),
  .op (some 3) (.mv (.t 9)),
  .op none (.store 6 (.t 4) (.t 10))])
 (.seq (.seq (.reg [.op (some 11) (.mv (.t 0)),
  .op (some 12) (.lenL (.t 11)),
  .op (some 13) (.binI .sub (.t 12) (.v (.lit (.int .i64 (1))))),
  .op (some 5) (.mv (.t 13))])
 (.block 0 (.loop (.seq (.seq (.reg [.op (some 14) (.mv (.t 5)),
  .op (some 15) (.binI .geq (.t 14) (.v (.lit (.int .i64 (0)))))])
 (.cond (.t 15)
 .skip
 (.exit 0)))
 (.seq (.block 1 (.seq (.reg [.op (some 18) (.mv (.t 0)),
  .op (some 19) (.mv (.t 5)),
  .op (some 20) (.iaddrS 9 (.t 18) (.t 19)),
  .op (some 21) (.load 9 true (.t 20)),
  .op (some 22) (.call (.v (.lit (.func (.func 54) #[] #[]))) [(.t 21)]),
  .op (some 6) (.alloc 59 (List.replicate 6 (.lit (.int .i64 (0))))),
  .op none (.store 6 (.t 6) (.t 22))])
 (.seq (.draw [((some 23), (.mv (.t 3))), ((some 24), (.mv (.t 5))), ((some 25), (.load 6 true (.t 6))), ((some 26), (.load 6 true (.t 4))), ((some 27), (.call (.v (.lit (.func (.func 92) #[] #[]))) [(.t 26)])), ((some 28), (.call (.v (.lit (.func (.func 53) #[] #[]))) [(.t 25), (.t 27)])), ((some 29), (.iaddrS 6 (.t 23) (.t 24)))] [(none, (.store 6 (.t 29) (.t 28)))])
 (.reg [.op (some 30) (.load 6 true (.t 4)),
  .op (some 31) (.load 6 true (.t 6)),
  .op (some 32) (.call (.v (.lit (.func (.func 93) #[] #[]))) [(.t 30), (.t 31)]),
  .op none (.store 6 (.t 4) (.t 32))]))))
 (.reg [.op (some 16) (.mv (.t 5)),
  .op (some 17) (.binI .sub (.t 16) (.v (.lit (.int .i64 (1))))),
  .op (some 5) (.mv (.t 17))]))))))
 (.seq (.reg [.op (some 33) (.mv (.t 3)),
  .op (some 2) (.mv (.t 33))])
 .ret))))
def rs59 : List RR := [.tmp 2]
def cut59 : Nat → Nat := fun id => if id = 6 then 15 else 0
theorem k59 : (Try.f59.body.bind fun c => comp Try.prog Try.f59.ntmps cut59 c) = some r59 := by kernel_rfl
theorem by59 {W0 : World} {σ : List Blk} {args : List AV} {K : Cont} (hn : args.length ≤ 34) (h : rW Try.prog W0 σ.length r59 (initFr args) σ (finP W0 rs59 σ.length K)) : ACall Try.prog W0 59 args σ K :=
  ACall.introR mixed Try.func59 (by kernel_rfl) k59 (by kernel_rfl) hn h
def r60 : RC := (.seq (.reg [.op (some 4) (.mv (.v (.lit (.slice none 0 0)))),
  .op (some 5) (.mv (.v (.lit (.bool false))))])
 (.seq (.reg [.op (some 12) (.mv (.t 0)),
  .op (some 13) (.call (.v (.lit (.func (.func 56) #[] #[]))) [(.t 12)]),
  .op (some 11) (.mv (.t 13)),
  .op (some 14) (.ext (.t 11) 0),
  .op (some 15) (.ext (.t 11) 1),
  .op (some 6) (.mv (.t 14)),
  .op (some 7) (.mv (.t 15))])
 (.seq (.seq (.reg [.op (some 16) (.mv (.t 7)),
  .op (some 17) (.un .not (.t 16))])
 (.cond (.t 17)
 (.seq (.reg [.op (some 4) (.mv (.v (.lit (.slice none 0 0)))),
  .op (some 5) (.mv (.v (.lit (.bool false))))])
 .ret)
 .skip))
 (.seq (.reg [.op (some 18) (.bslice 3 1 0 [(.lit (.int .i64 (0)))] []),
  .op (some 8) (.mv (.t 18)),
  .op (some 9) (.mv (.v (.lit (.int .u64 (0)))))])
 (.seq (.seq (.reg [.op (some 19) (.mv (.t 6)),
  .op (some 20) (.lenL (.t 19)),
  .op (some 21) (.binI .sub (.t 20) (.v (.lit (.int .i64 (1))))),
  .op (some 10) (.mv (.t 21))])
 (.block 0 (.loop (.seq (.seq (.reg [.op (some 22) (.mv (.t 10)),
  .op (some 23) (.binI .geq (.t 22) (.v (.lit (.int .i64 (0)))))])
 (.cond (.t 23)
 .skip
 (.exit 0)))
 (.seq (.block 1 (.seq (.seq (.reg [.op (some 26) (.mv (.t 1)),
  .op (some 27) (.mv (.t 6)),
  .op (some 28) (.mv (.t 10)),
  .op (some 29) (.iaddrS 2 (.t 27) (.t 28)),
  .op (some 30) (.faddr 0 (.t 29)),
  .op (some 31) (.load 1 false (.t 30)),
  .op (some 32) (.mv (.t 9)),
  .op (some 33) (.call (.t 26) [(.t 31), (.t 32)])])
 (.cond (.t 33)
 (.reg [.op (some 34) (.mv (.t 8)),
  .op (some 35) (.mv (.t 10)),
  .app (some 37) 36 3 1 8 (.t 34) 1 [(.lit (.int .i64 (0)))] [(0, (.t 35))],
  .op (some 8) (.mv (.t 37))])
 .skip))
 (.reg [.op (some 38) (.mv (.t 9)),
  .op (some 39) (.mv (.t 6)),
  .op (some 40) (.mv (.t 10)),
  .op (some 41) (.iaddrS 2 (.t 39) (.t 40)),
  .op (some 42) (.faddr 0 (.t 41)),
  .op (some 43) (.load 1 false (.t 42)),
  .op (some 44) (.binI .or (.t 38) (.t 43)),
  .op (some 9) (.mv (.t 44))])))
 (.reg [.op (some 24) (.mv (.t 10)),
  .op (some 25) (.binI .sub (.t 24) (.v (.lit (.int .i64 (1))))),
  .op (some 10) (.mv (.t 25))]))))))
 (.seq (.reg [.op (some 45) (.mv (.t 8)),
  .op (some 46) (.call (.v (.lit (.func (.func 94) #[] #[]))) [(.t 45)])])
 (.seq (.reg [.op (some 47) (.mv (.t 8)),
  .op (some 4) (.mv (.t 47)),
  .op (some 5) (.mv (.v (.lit (.bool true))))])
 .ret)))))))
def rs60 : List RR := [.tmp 4, .tmp 5]
def cut60 : Nat → Nat := fun id => 0
theorem k60 : (Try.f60.body.bind fun c => comp Try.prog Try.f60.ntmps cut60 c) = some r60 := by kernel_rfl
theorem by60 {W0 : World} {σ : List Blk} {args : List AV} {K : Cont} (hn : args.length ≤ 48) (h : rW Try.prog W0 σ.length r60 (initFr args) σ (finP W0 rs60 σ.length K)) : ACall Try.prog W0 60 args σ K :=
  ACall.introR mixed Try.func60 (by kernel_rfl) k60 (by kernel_rfl) hn h
def r61 : RC := (.seq (.reg [.op (some 4) (.mv (.v (.lit (.bool false))))])
 (.seq (.reg [.op (some 5) (.mv (.t 0)),
  .op (some 6) (.mv (.t 1)),
  .op (some 7) (.binI .and (.t 5) (.t 6)),
  .op (some 8) (.binI .eql (.t 7) (.v (.lit (.int .u64 (0))))),
  .op (some 4) (.mv (.t 8))])
 .ret))
def rs61 : List RR := [.tmp 4]
def cut61 : Nat → Nat := fun id => 0
theorem k61 : (Try.f61.body.bind fun c => comp Try.prog Try.f61.ntmps cut61 c) = some r61 := by kernel_rfl
theorem by61 {W0 : World} {σ : List Blk} {args : List AV} {K : Cont} (hn : args.length ≤ 9) (h : rW Try.prog W0 σ.length r61 (initFr args) σ (finP W0 rs61 σ.length K)) : ACall Try.prog W0 61 args σ K :=
  ACall.introR mixed Try.func61 (by kernel_rfl) k61 (by kernel_rfl) hn h
def r62 : RC := (.seq (.reg [.op (some 4) (.mv (.v (.lit (.bool false))))])
 (.seq (.reg [.op (some 5) (.mv (.t 0)),
  .op (some 6) (.mv (.t 1)),
  .op (some 7) (.binI .andNot (.t 5) (.t 6)),
  .op (some 8) (.binI .eql (.t 7) (.v (.lit (.int .u64 (0))))),
  .op (some 4) (.mv (.t 8))])
 .ret))
def rs62 : List RR := [.tmp 4]
def cut62 : Nat → Nat := fun id => 0
theorem k62 : (Try.f62.body.bind fun c => comp Try.prog Try.f62.ntmps cut62 c) = some r62 := by kernel_rfl
theorem by62 {W0 : World} {σ : List Blk} {args : List AV} {K : Cont} (hn : args.length ≤ 9) (h : rW Try.prog W0 σ.length r62 (initFr args) σ (finP W0 rs62 σ.length K)) : ACall Try.prog W0 62 args σ K :=
  ACall.introR mixed Try.func62 (by kernel_rfl) k62 (by kernel_rfl) hn h
def r63 : RC := (.seq (.reg [.op (some 1) (.box 44 (.t 0)),
  .op (some 2) (.mv (.v (.lit (.bool false))))])
 (.seq (.seq (.reg [.op (some 3) (.mv (.v (.lit (.int .i64 (0)))))])
 (.block 0 (.loop (.seq (.seq (.reg [.op (some 5) (.mv (.t 3)),
  .op (some 6) (.binI .lss (.t 5) (.v (.lit (.int .i64 (6)))))])
 (.cond (.t 6)
 .skip
 (.exit 0)))
 (.seq (.block 1 (.seq (.reg [.op (some 4) (.mv (.v (.lit (.int .i64 (0)))))])
 (.block 2 (.loop (.seq (.seq (.reg [.op (some 9) (.mv (.t 4)),
  .op (some 10) (.binI .lss (.t 9) (.v (.lit (.int .i64 (6)))))])
 (.cond (.t 10)
 .skip
 (.exit 2)))
 (.seq (.block 3 (.seq (.reg [.op (some 13) (.mv (.t 3)),
  .op (some 14) (.mv (.t 4)),
  .op (some 15) (.faddr 0 (.t 1)),
  .op (some 16) (.iaddrA 6 6 (.t 15) (.t 13)),
  .op (some 17) (.iaddrA 6 1 (.t 16) (.t 14)),
  .op (some 18) (.load 1 false (.t 17)),
  .op (some 19) (.call (.v (.lit (.func (.func 95) #[] #[]))) [(.t 18), (.v (.lit (.int .i64 (0)))), (.v (.lit (.int .i64 (4))))]),
  .op (some 20) (.un .not (.t 19))])
 (.cond (.t 20)
 (.seq (.reg [.op (some 2) (.mv (.v (.lit (.bool false))))])
 .ret)
 .skip)))
 (.reg [.op (some 11) (.mv (.t 4)),
  .op (some 12) (.binI .add (.t 11) (.v (.lit (.int .i64 (1))))),
  .op (some 4) (.mv (.t 12))])))))))
 (.reg [.op (some 7) (.mv (.t 3)),
  .op (some 8) (.binI .add (.t 7) (.v (.lit (.int .i64 (1))))),
  .op (some 3) (.mv (.t 8))]))))))
 (.seq (.reg [.op (some 2) (.mv (.v (.lit (.bool true))))])
 .ret)))
def rs63 : List RR := [.tmp 2]
def cut63 : Nat → Nat := fun id => 0
theorem k63 : (Try.f63.body.bind fun c => comp Try.prog Try.f63.ntmps cut63 c) = some r63 := by kernel_rfl
theorem by63 {W0 : World} {σ : List Blk} {args : List AV} {K : Cont} (hn : args.length ≤ 21) (h : rW Try.prog W0 σ.length r63 (initFr args) σ (finP W0 rs63 σ.length K)) : ACall Try.prog W0 63 args σ K :=
  ACall.introR mixed Try.func63 (by kernel_rfl) k63 (by kernel_rfl) hn h
def r64 : RC := (.seq (.reg [.op (some 2) (.box 44 (.t 0)),
  .op (some 3) (.box 83 (.t 1)),
  .op (some 4) (.alloc 44 (List.replicate 36 (.lit (.int .i64 (0)))))])
 (.seq (.reg [.op (some 8) (.load 9 true (.t 3)),
  .op (some 9) (.call (.v (.lit (.func (.func 54) #[] #[]))) [(.t 8)]),
  .op (some 5) (.alloc 59 (List.replicate 6 (.lit (.int .i64 (0))))),
  .op none (.store 6 (.t 5) (.t 9))])
 (.seq (.seq (.reg [.op (some 6) (.mv (.v (.lit (.int .i64 (0)))))])
 (.block 0 (.loop (.seq (.seq (.reg [.op (some 10) (.mv (.t 6)),
  .op (some 11) (.binI .lss (.t 10) (.v (.lit (.int .i64 (6)))))])
 (.cond (.t 11)
 .skip
 (.exit 0)))
 (.seq (.block 1 (.seq (.reg [.op (some 7) (.mv (.v (.lit (.int .i64 (0)))))])
 (.block 2 (.loop (.seq (.seq (.reg [.op (some 14) (.mv (.t 7)),
  .op (some 15) (.binI .lss (.t 14) (.v (.lit (.int .i64 (6)))))])
 (.cond (.t 15)
 .skip
 (.exit 2)))
 (.seq (.block 3 (.seq (.reg [.op (some 18) (.load 6 true (.t 5)),
  .op (some 19) (.mv (.t 7)),
  .op (some 20) (.mv (.t 6)),
  .op (some 21) (.call (.v (.lit (.func (.func 96) #[] #[]))) [(.t 18), (.t 19), (.t 20)])])
 (.cond (.t 21)
 (.quiet [.op (some 22) (.mv (.t 6)),
  .op (some 23) (.mv (.t 7)),
  .op (some 24) (.faddr 0 (.t 3)),
  .op (some 25) (.load 1 false (.t 24)),
  .op (some 26) (.faddr 0 (.t 2)),
  .op (some 27) (.iaddrA 6 6 (.t 26) (.t 22)),
  .op (some 28) (.iaddrA 6 1 (.t 27) (.t 23))] [.op none (.store 1 (.t 28) (.t 25))])
 .skip)))
 (.reg [.op (some 16) (.mv (.t 7)),
  .op (some 17) (.binI .add (.t 16) (.v (.lit (.int .i64 (1))))),
  .op (some 7) (.mv (.t 17))])))))))
 (.reg [.op (some 12) (.mv (.t 6)),
  .op (some 13) (.binI .add (.t 12) (.v (.lit (.int .i64 (1))))),
  .op (some 6) (.mv (.t 13))]))))))
 (.seq (.reg [.op (some 29) (.load 36 true (.t 2)),
  .op none (.store 36 (.t 4) (.t 29))])
 .ret))))
def rs64 : List RR := [.cell 4 36 true]
def cut64 : Nat → Nat := fun id => if id = 9 then 14 else 0
theorem k64 : (Try.f64.body.bind fun c => comp Try.prog Try.f64.ntmps cut64 c) = some r64 := by kernel_rfl
theorem by64 {W0 : World} {σ : List Blk} {args : List AV} {K : Cont} (hn : args.length ≤ 30) (h : rW Try.prog W0 σ.length r64 (initFr args) σ (finP W0 rs64 σ.length K)) : ACall Try.prog W0 64 args σ K :=
  ACall.introR mixed Try.func64 (by kernel_rfl) k64 (by kernel_rfl) hn h
def r65 : RC := (.seq (.reg [.op (some 1) (.box 40 (.t 0)),
  .op (some 2) (.alloc 40 (List.replicate 36 (.lit (.int .i64 (0)))))])
 (.seq (.reg [.op (some 3) (.alloc 40 (List.replicate 36 (.lit (.int .i64 (0)))))])
 (.seq (.seq (.reg [.op (some 4) (.mv (.v (.lit (.int .i64 (0)))))])
 (.block 0 (.loop (.seq (.seq (.reg [.op (some 5) (.mv (.t 4)),
  .op (some 6) (.binI .lss (.t 5) (.v (.lit (.int .i64 (6)))))])
 (.cond (.t 6)
 .skip
 (.exit 0)))
 (.seq (.block 1 (.reg [.op (some 9) (.mv (.t 4)),
  .op (some 10) (.mv (.t 4)),
  .op (some 11) (.iaddrA 6 6 (.t 1) (.t 10)),
  .op (some 12) (.load 6 true (.t 11)),
  .op (some 13) (.call (.v (.lit (.func (.func 97) #[] #[]))) [(.t 12)]),
  .op (some 14) (.iaddrA 6 6 (.t 3) (.t 9)),
  .op none (.store 6 (.t 14) (.t 13))]))
 (.reg [.op (some 7) (.mv (.t 4)),
  .op (some 8) (.binI .add (.t 7) (.v (.lit (.int .i64 (1))))),
  .op (some 4) (.mv (.t 8))]))))))
 (.seq (.reg [.op (some 15) (.load 36 true (.t 3)),
  .op none (.store 36 (.t 2) (.t 15))])
 .ret))))
def rs65 : List RR := [.cell 2 36 true]
def cut65 : Nat → Nat := fun id => 0
theorem k65 : (Try.f65.body.bind fun c => comp Try.prog Try.f65.ntmps cut65 c) = some r65 := by kernel_rfl
theorem by65 {W0 : World} {σ : List Blk} {args : List AV} {K : Cont} (hn : args.length ≤ 16) (h : rW Try.prog W0 σ.length r65 (initFr args) σ (finP W0 rs65 σ.length K)) : ACall Try.prog W0 65 args σ K :=
  ACall.introR mixed Try.func65 (by kernel_rfl) k65 (by kernel_rfl) hn h
def r66 : RC := (.seq (.reg [.op (some 1) (.box 44 (.t 0)),
  .op (some 2) (.mv (.v (.lit (.bool false))))])
 (.seq (.seq (.reg [.op (some 7) (.faddr 0 (.t 1)),
  .op (some 8) (.load 36 true (.t 7)),
  .op (some 9) (.mv (.v (.lit (.int .i64 (0)))))])
 (.block 0 (.loop (.seq (.reg [.op (some 10) (.binI .lss (.t 9) (.v (.lit (.int .i64 (6)))))])
 (.seq (.cond (.t 10)
 .skip
 (.exit 0))
 (.seq (.block 1 (.seq (.reg [.op (some 11) (.idxA 6 6 true (.t 8) (.t 9)),
  .op (some 4) (.alloc 39 (List.replicate 6 (.lit (.int .i64 (0))))),
  .op none (.store 6 (.t 4) (.t 11))])
 (.seq (.reg [.op (some 12) (.load 6 true (.t 4)),
  .op (some 13) (.mv (.v (.lit (.int .i64 (0)))))])
 (.block 2 (.loop (.seq (.reg [.op (some 14) (.binI .lss (.t 13) (.v (.lit (.int .i64 (6)))))])
 (.seq (.cond (.t 14)
 .skip
 (.exit 2))
 (.seq (.block 3 (.seq (.reg [.op (some 15) (.idxA 6 1 false (.t 12) (.t 13)),
  .op (some 6) (.mv (.t 15))])
 (.seq (.reg [.op (some 16) (.mv (.t 6)),
  .op (some 17) (.binI .lss (.t 16) (.v (.lit (.int .i64 (0))))),
  .op (some 18) (.mv (.t 17)),
  .grp 18 false [((some 19), (.mv (.t 6))), ((some 20), (.binI .gtr (.t 19) (.v (.lit (.int .i64 (4))))))],
  .op (some 21) (.pick (.t 18) (.v (.lit (.bool true))) (.t 20))])
 (.cond (.t 21)
 (.seq (.reg [.op (some 2) (.mv (.v (.lit (.bool false))))])
 .ret)
 .skip))))
 (.reg [.op (some 22) (.binI .add (.t 13) (.v (.lit (.int .i64 (1))))),
  .op (some 13) (.mv (.t 22))])))))))))
 (.reg [.op (some 23) (.binI .add (.t 9) (.v (.lit (.int .i64 (1))))),
  .op (some 9) (.mv (.t 23))])))))))
 (.seq (.reg [.op (some 2) (.mv (.v (.lit (.bool true))))])
 .ret)))
def rs66 : List RR := [.tmp 2]
def cut66 : Nat → Nat := fun id => 0
theorem k66 : (Try.f66.body.bind fun c => comp Try.prog Try.f66.ntmps cut66 c) = some r66 := by kernel_rfl
theorem by66 {W0 : World} {σ : List Blk} {args : List AV} {K : Cont} (hn : args.length ≤ 24) (h : rW Try.prog W0 σ.length r66 (initFr args) σ (finP W0 rs66 σ.length K)) : ACall Try.prog W0 66 args σ K :=
  ACall.introR mixed Try.func66 (by kernel_rfl) k66 (by kernel_rfl) hn h
def r67 : RC := (.seq (.reg [.op (some 2) (.box 44 (.t 0)),
  .op (some 3) (.box 3 (.t 1)),
  .op (some 4) (.mv (.v (.lit (.int .u64 (0)))))])
 (.seq (.reg [.op (some 5) (.mkfn (.func 99) [] [(.t 2), (.t 3)]),
  .op (some 6) (.call (.v (.lit (.func (.func 98) #[] #[]))) [(.t 5)]),
  .op (some 4) (.mv (.t 6))])
 .ret))
def rs67 : List RR := [.tmp 4]
def cut67 : Nat → Nat := fun id => 0
theorem k67 : (Try.f67.body.bind fun c => comp Try.prog Try.f67.ntmps cut67 c) = some r67 := by kernel_rfl
theorem by67 {W0 : World} {σ : List Blk} {args : List AV} {K : Cont} (hn : args.length ≤ 7) (h : rW Try.prog W0 σ.length r67 (initFr args) σ (finP W0 rs67 σ.length K)) : ACall Try.prog W0 67 args σ K :=
  ACall.introR mixed Try.func67 (by kernel_rfl) k67 (by kernel_rfl) hn h
def r68 : RC := (.seq (.reg [.op (some 4) (.mv (.v (.lit (.bool false))))])
 (.seq (.seq (.reg [.op (some 6) (.mv (.t 0)),
  .op (some 7) (.lenL (.t 6)),
  .op (some 8) (.mv (.t 1)),
  .op (some 9) (.binI .neq (.t 7) (.t 8))])
 (.cond (.t 9)
 (.seq (.reg [.op (some 4) (.mv (.v (.lit (.bool false))))])
 .ret)
 .skip))
 (.seq (.seq (.reg [.op (some 5) (.mv (.v (.lit (.int .i64 (0)))))])
 (.block 0 (.loop (.seq (.seq (.reg [.op (some 10) (.mv (.t 5)),
  .op (some 11) (.mv (.t 1)),
  .op (some 12) (.binI .lss (.t 10) (.t 11))])
 (.cond (.t 12)
 .skip
 (.exit 0)))
 (.seq (.block 1 (.seq (.quiet [.op (some 15) (.mv (.t 0)),
  .op (some 16) (.mv (.t 5)),
  .op (some 17) (.iaddrS 1 (.t 15) (.t 16)),
  .op (some 18) (.load 1 false (.t 17)),
  .op (some 19) (.mv (.t 1)),
  .op (some 20) (.binI .sub (.t 19) (.v (.lit (.int .i64 (1))))),
  .op (some 21) (.call (.v (.lit (.func (.func 95) #[] #[]))) [(.t 18), (.v (.lit (.int .i64 (0)))), (.t 20)]),
  .op (some 22) (.un .not (.t 21)),
  .op (some 23) (.mv (.t 22)),
  .grp 23 false [((some 24), (.mv (.t 0))), ((some 25), (.mv (.t 5))), ((some 26), (.slice 1 (.t 24) none (some (.t 25)))), ((some 27), (.mv (.t 0))), ((some 28), (.mv (.t 5))), ((some 29), (.iaddrS 1 (.t 27) (.t 28))), ((some 30), (.load 1 false (.t 29))), ((some 31), (.call (.v (.lit (.func (.func 100) #[] #[]))) [(.t 26), (.t 30)]))],
  .op (some 32) (.pick (.t 23) (.v (.lit (.bool true))) (.t 31))] [])
 (.cond (.t 32)
 (.seq (.reg [.op (some 4) (.mv (.v (.lit (.bool false))))])
 .ret)
 .skip)))
 (.reg [.op (some 13) (.mv (.t 5)),
  .op (some 14) (.binI .add (.t 13) (.v (.lit (.int .i64 (1))))),
  .op (some 5) (.mv (.t 14))]))))))
 (.seq (.reg [.op (some 4) (.mv (.v (.lit (.bool true))))])
 .ret))))
def rs68 : List RR := [.tmp 4]
def cut68 : Nat → Nat := fun id => 0
theorem k68 : (Try.f68.body.bind fun c => comp Try.prog Try.f68.ntmps cut68 c) = some r68 := by kernel_rfl
theorem by68 {W0 : World} {σ : List Blk} {args : List AV} {K : Cont} (hn : args.length ≤ 33) (h : rW Try.prog W0 σ.length r68 (initFr args) σ (finP W0 rs68 σ.length K)) : ACall Try.prog W0 68 args σ K :=
  ACall.introR mixed Try.func68 (by kernel_rfl) k68 (by kernel_rfl) hn h
def r69 : RC := (.seq (.reg [.op (some 4) (.alloc 44 (List.replicate 36 (.lit (.int .i64 (0)))))])
 (.seq (.reg [.op (some 7) (.build (List.replicate 36 (.lit (.int .i64 (0)))) []),
  .op (some 5) (.alloc 44 (List.replicate 36 (.lit (.int .i64 (0))))),
  .op none (.store 36 (.t 5) (.t 7))])
 (.seq (.seq (.reg [.op (some 6) (.mv (.v (.lit (.int .i64 (0)))))])
 (.block 0 (.loop (.seq (.seq (.reg [.op (some 8) (.mv (.t 6)),
  .op (some 9) (.mv (.t 1)),
  .op (some 10) (.lenL (.t 9)),
  .op (some 11) (.binI .lss (.t 8) (.t 10))])
 (.cond (.t 11)
 .skip
 (.exit 0)))
 (.seq (.block 1 (.draw [((some 14), (.load 36 true (.t 5))), ((some 15), (.mv (.t 0))), ((some 16), (.mv (.t 1))), ((some 17), (.mv (.t 6))), ((some 18), (.iaddrS 1 (.t 16) (.t 17))), ((some 19), (.load 1 false (.t 18))), ((some 20), (.iaddrS 9 (.t 15) (.t 19))), ((some 21), (.load 9 true (.t 20))), ((some 22), (.call (.v (.lit (.func (.func 64) #[] #[]))) [(.t 14), (.t 21)]))] [(none, (.store 36 (.t 5) (.t 22)))]))
 (.reg [.op (some 12) (.mv (.t 6)),
  .op (some 13) (.binI .add (.t 12) (.v (.lit (.int .i64 (1))))),
  .op (some 6) (.mv (.t 13))]))))))
 (.seq (.reg [.op (some 23) (.load 36 true (.t 5)),
  .op none (.store 36 (.t 4) (.t 23))])
 .ret))))
def rs69 : List RR := [.cell 4 36 true]
def cut69 : Nat → Nat := fun id => if id = 5 then 19 else 0
theorem k69 : (Try.f69.body.bind fun c => comp Try.prog Try.f69.ntmps cut69 c) = some r69 := by kernel_rfl
theorem by69 {W0 : World} {σ : List Blk} {args : List AV} {K : Cont} (hn : args.length ≤ 24) (h : rW Try.prog W0 σ.length r69 (initFr args) σ (finP W0 rs69 σ.length K)) : ACall Try.prog W0 69 args σ K :=
  ACall.introR mixed Try.func69 (by kernel_rfl) k69 (by kernel_rfl) hn h
def r70 : RC := (.seq (.reg [.op (some 4) (.mv (.v (.lit (.bool false))))])
 (.seq (.seq (.reg [.op (some 7) (.mv (.t 0)),
  .op (some 8) (.lenL (.t 7)),
  .op (some 9) (.mv (.t 1)),
  .op (some 10) (.binI .neq (.t 8) (.t 9))])
 (.cond (.t 10)
 (.seq (.reg [.op (some 4) (.mv (.v (.lit (.bool false))))])
 .ret)
 .skip))
 (.seq (.seq (.reg [.op (some 11) (.mv (.t 0)),
  .op (some 12) (.lenL (.t 11)),
  .op (some 13) (.mv (.v (.lit (.int .i64 (0)))))])
 (.block 0 (.loop (.seq (.reg [.op (some 14) (.binI .lss (.t 13) (.t 12))])
 (.seq (.cond (.t 14)
 .skip
 (.exit 0))
 (.seq (.block 1 (.seq (.reg [.op (some 15) (.mv (.t 13)),
  .op (some 16) (.iaddrS 1 (.t 11) (.t 13)),
  .op (some 17) (.load 1 false (.t 16)),
  .op (some 5) (.mv (.t 15)),
  .op (some 6) (.mv (.t 17))])
 (.seq (.reg [.op (some 18) (.mv (.t 6)),
  .op (some 19) (.binI .lss (.t 18) (.v (.lit (.int .i64 (0))))),
  .op (some 20) (.mv (.t 19)),
  .grp 20 false [((some 21), (.mv (.t 6))), ((some 22), (.mv (.t 1))), ((some 23), (.binI .geq (.t 21) (.t 22)))],
  .op (some 24) (.pick (.t 20) (.v (.lit (.bool true))) (.t 23)),
  .op (some 25) (.mv (.t 24)),
  .grp 25 false [((some 26), (.mv (.t 0))), ((some 27), (.mv (.t 5))), ((some 28), (.slice 1 (.t 26) none (some (.t 27)))), ((some 29), (.mv (.t 6))), ((some 30), (.call (.v (.lit (.func (.func 101) #[] #[]))) [(.t 28), (.t 29)]))],
  .op (some 31) (.pick (.t 25) (.v (.lit (.bool true))) (.t 30))])
 (.cond (.t 31)
 (.seq (.reg [.op (some 4) (.mv (.v (.lit (.bool false))))])
 .ret)
 .skip))))
 (.reg [.op (some 32) (.binI .add (.t 13) (.v (.lit (.int .i64 (1))))),
  .op (some 13) (.mv (.t 32))])))))))
 (.seq (.reg [.op (some 4) (.mv (.v (.lit (.bool true))))])
 .ret))))
def rs70 : List RR := [.tmp 4]
def cut70 : Nat → Nat := fun id => 0
theorem k70 : (Try.f70.body.bind fun c => comp Try.prog Try.f70.ntmps cut70 c) = some r70 := by kernel_rfl
theorem by70 {W0 : World} {σ : List Blk} {args : List AV} {K : Cont} (hn : args.length ≤ 33) (h : rW Try.prog W0 σ.length r70 (initFr args) σ (finP W0 rs70 σ.length K)) : ACall Try.prog W0 70 args σ K :=
  ACall.introR mixed Try.func70 (by kernel_rfl) k70 (by kernel_rfl) hn h
def r71 : RC := (.seq (.reg [.op (some 2) (.alloc 44 (List.replicate 36 (.lit (.int .i64 (0)))))])
 (.seq (.reg [.op (some 8) (.build (List.replicate 36 (.lit (.int .i64 (0)))) []),
  .op (some 3) (.alloc 44 (List.replicate 36 (.lit (.int .i64 (0))))),
  .op none (.store 36 (.t 3) (.t 8))])
 (.seq (.seq (.reg [.op (some 9) (.mv (.t 0)),
  .op (some 10) (.lenL (.t 9)),
  .op (some 11) (.mv (.v (.lit (.int .i64 (0)))))])
 (.block 0 (.loop (.seq (.reg [.op (some 12) (.binI .lss (.t 11) (.t 10))])
 (.seq (.cond (.t 12)
 .skip
 (.exit 0))
 (.seq (.block 1 (.seq (.reg [.op (some 13) (.iaddrS 2 (.t 9) (.t 11)),
  .op (some 14) (.load 2 true (.t 13)),
  .op (some 5) (.alloc 93 [(.lit (.int .u64 (0))), (.lit (.int .i64 (0)))]),
  .op none (.store 2 (.t 5) (.t 14))])
 (.seq (.reg [.op (some 15) (.faddr 0 (.t 5)),
  .op (some 16) (.load 1 false (.t 15)),
  .op (some 17) (.call (.v (.lit (.func (.func 102) #[] #[]))) [(.t 16)]),
  .op (some 18) (.lenL (.t 17)),
  .op (some 19) (.mv (.v (.lit (.int .i64 (0)))))])
 (.block 2 (.loop (.seq (.reg [.op (some 20) (.binI .lss (.t 19) (.t 18))])
 (.seq (.cond (.t 20)
 .skip
 (.exit 2))
 (.seq (.block 3 (.seq (.reg [.op (some 21) (.iaddrS 1 (.t 17) (.t 19)),
  .op (some 22) (.load 1 false (.t 21)),
  .op (some 7) (.mv (.t 22))])
 (.quiet [.op (some 23) (.mv (.t 7)),
  .op (some 24) (.binI .quo (.t 23) (.v (.lit (.int .i64 (6))))),
  .op (some 25) (.mv (.t 7)),
  .op (some 26) (.binI .rem (.t 25) (.v (.lit (.int .i64 (6))))),
  .op (some 27) (.faddr 1 (.t 5)),
  .op (some 28) (.load 1 false (.t 27)),
  .op (some 29) (.faddr 0 (.t 3)),
  .op (some 30) (.iaddrA 6 6 (.t 29) (.t 24)),
  .op (some 31) (.iaddrA 6 1 (.t 30) (.t 26))] [.op none (.store 1 (.t 31) (.t 28))])))
 (.reg [.op (some 32) (.binI .add (.t 19) (.v (.lit (.int .i64 (1))))),
  .op (some 19) (.mv (.t 32))])))))))))
 (.reg [.op (some 33) (.binI .add (.t 11) (.v (.lit (.int .i64 (1))))),
  .op (some 11) (.mv (.t 33))])))))))
 (.seq (.reg [.op (some 34) (.load 36 true (.t 3)),
  .op none (.store 36 (.t 2) (.t 34))])
 .ret))))
def rs71 : List RR := [.cell 2 36 true]
def cut71 : Nat → Nat := fun id => if id = 8 then 18 else 0
theorem k71 : (Try.f71.body.bind fun c => comp Try.prog Try.f71.ntmps cut71 c) = some r71 := by kernel_rfl
theorem by71 {W0 : World} {σ : List Blk} {args : List AV} {K : Cont} (hn : args.length ≤ 35) (h : rW Try.prog W0 σ.length r71 (initFr args) σ (finP W0 rs71 σ.length K)) : ACall Try.prog W0 71 args σ K :=
  ACall.introR mixed Try.func71 (by kernel_rfl) k71 (by kernel_rfl) hn h
def r72 : RC := (.seq (.reg [.op (some 4) (.mv (.v (.lit (.slice none 0 0))))])
 (.seq (.reg [.op (some 8) (.bslice 93 2 0 [(.lit (.int .u64 (0))), (.lit (.int .i64 (0)))] []),
  .op (some 5) (.mv (.t 8))])
 (.seq (.seq (.reg [.op (some 9) (.mv (.t 1)),
  .op (some 10) (.lenL (.t 9)),
  .op (some 11) (.mv (.v (.lit (.int .i64 (0)))))])
 (.block 0 (.loop (.seq (.reg [.op (some 12) (.binI .lss (.t 11) (.t 10))])
 (.seq (.cond (.t 12)
 .skip
 (.exit 0))
 (.seq (.block 1 (.seq (.reg [.op (some 13) (.iaddrS 1 (.t 9) (.t 11)),
  .op (some 14) (.load 1 false (.t 13)),
  .op (some 7) (.mv (.t 14))])
 (.reg [.op (some 15) (.mv (.t 5)),
  .op (some 16) (.mv (.t 0)),
  .op (some 17) (.mv (.t 7)),
  .op (some 18) (.iaddrS 2 (.t 16) (.t 17)),
  .op (some 19) (.load 2 true (.t 18)),
  .app (some 21) 20 93 2 16 (.t 15) 1 [(.lit (.int .u64 (0))), (.lit (.int .i64 (0)))] [(0, (.t 19))],
  .op (some 5) (.mv (.t 21))])))
 (.reg [.op (some 22) (.binI .add (.t 11) (.v (.lit (.int .i64 (1))))),
  .op (some 11) (.mv (.t 22))])))))))
 (.seq (.reg [.op (some 23) (.mv (.t 5)),
  .op (some 4) (.mv (.t 23))])
 .ret))))
def rs72 : List RR := [.tmp 4]
def cut72 : Nat → Nat := fun id => 0
theorem k72 : (Try.f72.body.bind fun c => comp Try.prog Try.f72.ntmps cut72 c) = some r72 := by kernel_rfl
theorem by72 {W0 : World} {σ : List Blk} {args : List AV} {K : Cont} (hn : args.length ≤ 24) (h : rW Try.prog W0 σ.length r72 (initFr args) σ (finP W0 rs72 σ.length K)) : ACall Try.prog W0 72 args σ K :=
  ACall.introR mixed Try.func72 (by kernel_rfl) k72 (by kernel_rfl) hn h
def r73 : RC := (.seq (.reg [.op (some 2) (.box 44 (.t 0)),
  .op (some 4) (.mv (.v (.lit (.slice none 0 0))))])
 (.seq (.reg [.op (some 8) (.bslice 34 1 0 [(.lit (.slice none 0 0))] []),
  .op (some 9) (.mv (.t 1)),
  .op (some 10) (.lenL (.t 9)),
  .op (some 11) (.call (.v (.lit (.func (.func 75) #[] #[]))) [(.t 10)]),
  .op (some 12) (.call (.v (.lit (.func (.func 103) #[] #[]))) [(.t 11)]),
  .op (some 5) (.mv (.t 8)),
  .op (some 6) (.mv (.t 12))])
 (.seq (.seq (.reg [.op (some 7) (.mv (.v (.lit (.int .i64 (0)))))])
 (.block 0 (.loop (.seq (.seq (.reg [.op (some 13) (.mv (.t 7)),
  .op (some 14) (.mv (.t 6)),
  .op (some 15) (.lenL (.t 14)),
  .op (some 16) (.binI .lss (.t 13) (.t 15))])
 (.cond (.t 16)
 .skip
 (.exit 0)))
 (.seq (.block 1 (.seq (.draw [((some 19), (.mv (.t 1))), ((some 20), (.mv (.t 6))), ((some 21), (.mv (.t 7))), ((some 22), (.iaddrS 1 (.t 20) (.t 21))), ((some 23), (.load 1 false (.t 22))), ((some 24), (.call (.v (.lit (.func (.func 69) #[] #[]))) [(.t 19), (.t 23)])), ((some 25), (.load 36 true (.t 2))), ((some 26), (.eqA false [.int, .int, .int, .int, .int, .int, .int, .int, .int, .int, .int, .int, .int, .int, .int, .int, .int, .int, .int, .int, .int, .int, .int, .int, .int, .int, .int, .int, .int, .int, .int, .int, .int, .int, .int, .int] (.t 24) (.t 25)))] [])
 (.cond (.t 26)
 (.reg [.op (some 27) (.mv (.t 5)),
  .op (some 28) (.mv (.t 6)),
  .op (some 29) (.mv (.t 7)),
  .op (some 30) (.iaddrS 1 (.t 28) (.t 29)),
  .op (some 31) (.load 1 false (.t 30)),
  .app (some 33) 32 34 1 24 (.t 27) 1 [(.lit (.slice none 0 0))] [(0, (.t 31))],
  .op (some 5) (.mv (.t 33))])
 .skip)))
 (.reg [.op (some 17) (.mv (.t 7)),
  .op (some 18) (.binI .add (.t 17) (.v (.lit (.int .i64 (1))))),
  .op (some 7) (.mv (.t 18))]))))))
 (.seq (.reg [.op (some 34) (.mv (.t 5)),
  .op (some 4) (.mv (.t 34))])
 .ret))))
def rs73 : List RR := [.tmp 4]
def cut73 : Nat → Nat := fun id => if id = 5 then 17 else 0
theorem k73 : (Try.f73.body.bind fun c => comp Try.prog Try.f73.ntmps cut73 c) = some r73 := by kernel_rfl
theorem by73 {W0 : World} {σ : List Blk} {args : List AV} {K : Cont} (hn : args.length ≤ 35) (h : rW Try.prog W0 σ.length r73 (initFr args) σ (finP W0 rs73 σ.length K)) : ACall Try.prog W0 73 args σ K :=
  ACall.introR mixed Try.func73 (by kernel_rfl) k73 (by kernel_rfl) hn h
def r74 : RC := (.seq (.reg [.op (some 2) (.box 44 (.t 0)),
  .op (some 4) (.mv (.v (.lit (.slice none 0 0)))),
  .op (some 5) (.mv (.v (.lit (.bool false))))])
 (.seq (.reg [.op (some 11) (.mv (.t 1)),
  .op (some 12) (.call (.v (.lit (.func (.func 56) #[] #[]))) [(.t 11)]),
  .op (some 10) (.mv (.t 12)),
  .op (some 13) (.ext (.t 10) 0),
  .op (some 14) (.ext (.t 10) 1),
  .op (some 6) (.alloc 87 [(.lit (.slice none 0 0))]),
  .op none (.store 1 (.t 6) (.t 13)),
  .op (some 7) (.mv (.t 14))])
 (.seq (.seq (.reg [.op (some 15) (.mv (.t 7)),
  .op (some 16) (.un .not (.t 15)),
  .op (some 17) (.mv (.t 16)),
  .grp 17 false [((some 18), (.load 36 true (.t 2))), ((some 19), (.call (.v (.lit (.func (.func 66) #[] #[]))) [(.t 18)])), ((some 20), (.un .not (.t 19)))],
  .op (some 21) (.pick (.t 17) (.v (.lit (.bool true))) (.t 20))])
 (.cond (.t 21)
 (.seq (.reg [.op (some 4) (.mv (.v (.lit (.slice none 0 0)))),
  .op (some 5) (.mv (.v (.lit (.bool false))))])
 .ret)
 .skip))
 (.seq (.reg [.op (some 22) (.bslice 34 1 0 [(.lit (.slice none 0 0))] []),
  .op (some 8) (.alloc 108 [(.lit (.slice none 0 0))]),
  .op none (.store 1 (.t 8) (.t 22))])
 (.seq (.reg [.op (some 9) (.alloc 127 [(.lit .nilFunc)])])
 (.seq (.reg [.op (some 23) (.mkfn (.func 104) [] [(.t 6), (.t 2), (.t 8), (.t 9)]),
  .op none (.store 1 (.t 9) (.t 23))])
 (.seq (.reg [.op (some 24) (.load 1 false (.t 9)),
  .op (some 25) (.bslice 3 1 0 [(.lit (.int .i64 (0)))] []),
  .op (some 26) (.call (.t 24) [(.t 25)])])
 (.seq (.reg [.op (some 27) (.load 1 false (.t 8)),
  .op (some 4) (.mv (.t 27)),
  .op (some 5) (.mv (.v (.lit (.bool true))))])
 .ret))))))))
def rs74 : List RR := [.tmp 4, .tmp 5]
def cut74 : Nat → Nat := fun id => 0
theorem k74 : (Try.f74.body.bind fun c => comp Try.prog Try.f74.ntmps cut74 c) = some r74 := by kernel_rfl
theorem by74 {W0 : World} {σ : List Blk} {args : List AV} {K : Cont} (hn : args.length ≤ 28) (h : rW Try.prog W0 σ.length r74 (initFr args) σ (finP W0 rs74 σ.length K)) : ACall Try.prog W0 74 args σ K :=
  ACall.introR mixed Try.func74 (by kernel_rfl) k74 (by kernel_rfl) hn h
def r75 : RC := (.seq (.reg [.op (some 2) (.mv (.v (.lit (.slice none 0 0))))])
 (.seq (.reg [.op (some 5) (.bslice 3 1 0 [(.lit (.int .i64 (0)))] []),
  .op (some 3) (.mv (.t 5))])
 (.seq (.seq (.reg [.op (some 4) (.mv (.v (.lit (.int .i64 (0)))))])
 (.block 0 (.loop (.seq (.seq (.reg [.op (some 6) (.mv (.t 4)),
  .op (some 7) (.mv (.t 0)),
  .op (some 8) (.binI .lss (.t 6) (.t 7))])
 (.cond (.t 8)
 .skip
 (.exit 0)))
 (.seq (.block 1 (.reg [.op (some 11) (.mv (.t 3)),
  .op (some 12) (.mv (.t 4)),
  .app (some 14) 13 3 1 8 (.t 11) 1 [(.lit (.int .i64 (0)))] [(0, (.t 12))],
  .op (some 3) (.mv (.t 14))]))
 (.reg [.op (some 9) (.mv (.t 4)),
  .op (some 10) (.binI .add (.t 9) (.v (.lit (.int .i64 (1))))),
  .op (some 4) (.mv (.t 10))]))))))
 (.seq (.reg [.op (some 15) (.mv (.t 3)),
  .op (some 2) (.mv (.t 15))])
 .ret))))
def rs75 : List RR := [.tmp 2]
def cut75 : Nat → Nat := fun id => 0
theorem k75 : (Try.f75.body.bind fun c => comp Try.prog Try.f75.ntmps cut75 c) = some r75 := by kernel_rfl
theorem by75 {W0 : World} {σ : List Blk} {args : List AV} {K : Cont} (hn : args.length ≤ 16) (h : rW Try.prog W0 σ.length r75 (initFr args) σ (finP W0 rs75 σ.length K)) : ACall Try.prog W0 75 args σ K :=
  ACall.introR mixed Try.func75 (by kernel_rfl) k75 (by kernel_rfl) hn h
def r76 : RC := (.seq (.reg [.op (some 4) (.mv (.v (.lit (.bool false))))])
 (.seq (.seq (.reg [.op (some 6) (.mv (.t 0)),
  .op (some 7) (.lenL (.t 6)),
  .op (some 8) (.mv (.t 1)),
  .op (some 9) (.lenL (.t 8)),
  .op (some 10) (.binI .neq (.t 7) (.t 9))])
 (.cond (.t 10)
 (.seq (.reg [.op (some 11) (.mv (.t 0)),
  .op (some 12) (.lenL (.t 11)),
  .op (some 13) (.mv (.t 1)),
  .op (some 14) (.lenL (.t 13)),
  .op (some 15) (.binI .lss (.t 12) (.t 14)),
  .op (some 4) (.mv (.t 15))])
 .ret)
 .skip))
 (.seq (.seq (.reg [.op (some 5) (.mv (.v (.lit (.int .i64 (0)))))])
 (.block 0 (.loop (.seq (.seq (.reg [.op (some 16) (.mv (.t 5)),
  .op (some 17) (.mv (.t 0)),
  .op (some 18) (.lenL (.t 17)),
  .op (some 19) (.binI .lss (.t 16) (.t 18))])
 (.cond (.t 19)
 .skip
 (.exit 0)))
 (.seq (.block 1 (.seq (.draw [((some 22), (.mv (.t 0))), ((some 23), (.mv (.t 5))), ((some 24), (.iaddrS 1 (.t 22) (.t 23))), ((some 25), (.load 1 false (.t 24))), ((some 26), (.mv (.t 1))), ((some 27), (.mv (.t 5))), ((some 28), (.iaddrS 1 (.t 26) (.t 27))), ((some 29), (.load 1 false (.t 28))), ((some 30), (.binI .neq (.t 25) (.t 29)))] [])
 (.cond (.t 30)
 (.seq (.draw [((some 31), (.mv (.t 0))), ((some 32), (.mv (.t 5))), ((some 33), (.iaddrS 1 (.t 31) (.t 32))), ((some 34), (.load 1 false (.t 33))), ((some 35), (.mv (.t 1))), ((some 36), (.mv (.t 5))), ((some 37), (.iaddrS 1 (.t 35) (.t 36))), ((some 38), (.load 1 false (.t 37))), ((some 39), (.binI .lss (.t 34) (.t 38))), ((some 4), (.mv (.t 39)))] [])
 .ret)
 .skip)))
 (.reg [.op (some 20) (.mv (.t 5)),
  .op (some 21) (.binI .add (.t 20) (.v (.lit (.int .i64 (1))))),
  .op (some 5) (.mv (.t 21))]))))))
 (.seq (.reg [.op (some 4) (.mv (.v (.lit (.bool false))))])
 .ret))))
def rs76 : List RR := [.tmp 4]
def cut76 : Nat → Nat := fun id => if id = 6 then 19 else if id = 7 then 21 else 0
theorem k76 : (Try.f76.body.bind fun c => comp Try.prog Try.f76.ntmps cut76 c) = some r76 := by kernel_rfl
theorem by76 {W0 : World} {σ : List Blk} {args : List AV} {K : Cont} (hn : args.length ≤ 40) (h : rW Try.prog W0 σ.length r76 (initFr args) σ (finP W0 rs76 σ.length K)) : ACall Try.prog W0 76 args σ K :=
  ACall.introR mixed Try.func76 (by kernel_rfl) k76 (by kernel_rfl) hn h
def r77 : RC := (.seq (.reg [.op (some 4) (.mv (.v (.lit (.int .i64 (0)))))])
 (.seq (.seq (.reg [.op (some 9) (.mv (.t 0)),
  .op (some 10) (.lenL (.t 9)),
  .op (some 11) (.mv (.v (.lit (.int .i64 (0)))))])
 (.block 0 (.loop (.seq (.reg [.op (some 12) (.binI .lss (.t 11) (.t 10))])
 (.seq (.cond (.t 12)
 .skip
 (.exit 0))
 (.seq (.block 1 (.seq (.reg [.op (some 13) (.mv (.t 11)),
  .op (some 14) (.iaddrS 1 (.t 9) (.t 11)),
  .op (some 15) (.load 1 false (.t 14)),
  .op (some 5) (.mv (.t 13)),
  .op (some 6) (.mv (.t 15))])
 (.seq (.seq (.reg [.op (some 16) (.mv (.t 5)),
  .op (some 17) (.mv (.t 1)),
  .op (some 18) (.lenL (.t 17)),
  .op (some 19) (.binI .geq (.t 16) (.t 18))])
 (.cond (.t 19)
 (.seq (.reg [.op (some 4) (.mv (.v (.lit (.int .i64 (1)))))])
 .ret)
 .skip))
 (.seq (.reg [.op (some 20) (.mv (.t 1)),
  .op (some 21) (.mv (.t 5)),
  .op (some 22) (.iaddrS 1 (.t 20) (.t 21)),
  .op (some 23) (.load 1 false (.t 22)),
  .op (some 7) (.mv (.t 23))])
 (.seq (.reg [.op (some 24) (.mv (.t 6)),
  .op (some 25) (.mv (.t 7)),
  .op (some 26) (.call (.v (.lit (.func (.func 106) #[] #[]))) [(.t 24), (.t 25)]),
  .op (some 8) (.mv (.t 26))])
 (.seq (.reg [.op (some 27) (.mv (.t 8)),
  .op (some 28) (.binI .neq (.t 27) (.v (.lit (.int .i64 (0)))))])
 (.cond (.t 28)
 (.seq (.reg [.op (some 29) (.mv (.t 8)),
  .op (some 4) (.mv (.t 29))])
 .ret)
 .skip)))))))
 (.reg [.op (some 30) (.binI .add (.t 11) (.v (.lit (.int .i64 (1))))),
  .op (some 11) (.mv (.t 30))])))))))
 (.seq (.seq (.reg [.op (some 31) (.mv (.t 0)),
  .op (some 32) (.lenL (.t 31)),
  .op (some 33) (.mv (.t 1)),
  .op (some 34) (.lenL (.t 33)),
  .op (some 35) (.binI .lss (.t 32) (.t 34))])
 (.cond (.t 35)
 (.seq (.reg [.op (some 4) (.mv (.v (.lit (.int .i64 (-1)))))])
 .ret)
 .skip))
 (.seq (.reg [.op (some 4) (.mv (.v (.lit (.int .i64 (0)))))])
 .ret))))
def rs77 : List RR := [.tmp 4]
def cut77 : Nat → Nat := fun id => 0
theorem k77 : (Try.f77.body.bind fun c => comp Try.prog Try.f77.ntmps cut77 c) = some r77 := by kernel_rfl
theorem by77 {W0 : World} {σ : List Blk} {args : List AV} {K : Cont} (hn : args.length ≤ 36) (h : rW Try.prog W0 σ.length r77 (initFr args) σ (finP W0 rs77 σ.length K)) : ACall Try.prog W0 77 args σ K :=
  ACall.introR mixed Try.func77 (by kernel_rfl) k77 (by kernel_rfl) hn h
def r78 : RC := (.seq (.reg [.op (some 1) (.box 61 (.t 0)),
  .op (some 2) (.mv (.v (.lit (.bool false))))])
 (.seq (.reg [.op (some 3) (.faddr 0 (.t 1)),
  .op (some 4) (.load 6 true (.t 3)),
  .op (some 5) (.call (.v (.lit (.func (.func 107) #[] #[]))) [(.t 4)]),
  .op (some 6) (.mv (.t 5)),
  .grp 6 true [((some 7), (.faddr 6 (.t 1))), ((some 8), (.load 6 true (.t 7))), ((some 9), (.call (.v (.lit (.func (.func 107) #[] #[]))) [(.t 8)]))],
  .op (some 10) (.pick (.t 6) (.t 9) (.v (.lit (.bool false)))),
  .op (some 11) (.mv (.t 10)),
  .grp 11 true [((some 12), (.faddr 12 (.t 1))), ((some 13), (.load 1 false (.t 12))), ((some 14), (.call (.v (.lit (.func (.func 95) #[] #[]))) [(.t 13), (.v (.lit (.int .i64 (0)))), (.v (.lit (.int .i64 (1000))))]))],
  .op (some 15) (.pick (.t 11) (.t 14) (.v (.lit (.bool false)))),
  .op (some 16) (.mv (.t 15)),
  .grp 16 true [((some 17), (.faddr 13 (.t 1))), ((some 18), (.load 1 false (.t 17))), ((some 19), (.call (.v (.lit (.func (.func 95) #[] #[]))) [(.t 18), (.v (.lit (.int .i64 (0)))), (.v (.lit (.int .i64 (1000))))]))],
  .op (some 20) (.pick (.t 16) (.t 19) (.v (.lit (.bool false)))),
  .op (some 2) (.mv (.t 20))])
 .ret))
def rs78 : List RR := [.tmp 2]
def cut78 : Nat → Nat := fun id => 0
theorem k78 : (Try.f78.body.bind fun c => comp Try.prog Try.f78.ntmps cut78 c) = some r78 := by kernel_rfl
theorem by78 {W0 : World} {σ : List Blk} {args : List AV} {K : Cont} (hn : args.length ≤ 21) (h : rW Try.prog W0 σ.length r78 (initFr args) σ (finP W0 rs78 σ.length K)) : ACall Try.prog W0 78 args σ K :=
  ACall.introR mixed Try.func78 (by kernel_rfl) k78 (by kernel_rfl) hn h
def r79 : RC := (.seq (.reg [.op (some 2) (.box 61 (.t 0)),
  .op (some 3) (.box 65 (.t 1)),
  .op (some 4) (.alloc 61 (List.replicate 14 (.lit (.int .i64 (0))))),
  .op (some 5) (.mv (.v (.lit (.bool false))))])
 (.seq (.reg [.op (some 9) (.load 14 true (.t 2)),
  .op (some 10) (.load 3 true (.t 3)),
  .op (some 11) (.call (.v (.lit (.func (.func 108) #[] #[]))) [(.t 9), (.t 10)]),
  .op (some 8) (.mv (.t 11)),
  .op (some 12) (.ext (.t 8) 0),
  .op (some 13) (.ext (.t 8) 1),
  .op (some 6) (.alloc 61 (List.replicate 14 (.lit (.int .i64 (0))))),
  .op none (.store 14 (.t 6) (.t 12)),
  .op (some 7) (.mv (.t 13))])
 (.seq (.reg [.op (some 14) (.faddr 13 (.t 2)),
  .op (some 15) (.load 1 false (.t 14)),
  .op (some 16) (.binI .add (.t 15) (.v (.lit (.int .i64 (1))))),
  .op (some 17) (.faddr 13 (.t 6)),
  .op none (.store 1 (.t 17) (.t 16))])
 (.seq (.seq (.reg [.op (some 18) (.mv (.t 7)),
  .op (some 19) (.un .not (.t 18)),
  .op (some 20) (.mv (.t 19)),
  .grp 20 false [((some 21), (.load 14 true (.t 6))), ((some 22), (.call (.v (.lit (.func (.func 78) #[] #[]))) [(.t 21)])), ((some 23), (.un .not (.t 22)))],
  .op (some 24) (.pick (.t 20) (.v (.lit (.bool true))) (.t 23))])
 (.cond (.t 24)
 (.seq (.reg [.op (some 25) (.build (List.replicate 14 (.lit (.int .i64 (0)))) []),
  .op none (.store 14 (.t 4) (.t 25)),
  .op (some 5) (.mv (.v (.lit (.bool false))))])
 .ret)
 .skip))
 (.seq (.reg [.op (some 26) (.load 14 true (.t 6)),
  .op none (.store 14 (.t 4) (.t 26)),
  .op (some 5) (.mv (.v (.lit (.bool true))))])
 .ret)))))
def rs79 : List RR := [.cell 4 14 true, .tmp 5]
def cut79 : Nat → Nat := fun id => 0
theorem k79 : (Try.f79.body.bind fun c => comp Try.prog Try.f79.ntmps cut79 c) = some r79 := by kernel_rfl
theorem by79 {W0 : World} {σ : List Blk} {args : List AV} {K : Cont} (hn : args.length ≤ 27) (h : rW Try.prog W0 σ.length r79 (initFr args) σ (finP W0 rs79 σ.length K)) : ACall Try.prog W0 79 args σ K :=
  ACall.introR mixed Try.func79 (by kernel_rfl) k79 (by kernel_rfl) hn h
def r80 : RC := (.seq (.reg [.op (some 1) (.box 54 (.t 0)),
  .op (some 2) (.alloc 59 (List.replicate 6 (.lit (.int .i64 (0)))))])
 (.seq (.reg [.op (some 3) (.alloc 59 (List.replicate 6 (.lit (.int .i64 (0)))))])
 (.seq (.reg [.op (some 4) (.faddr 0 (.t 1)),
  .op (some 5) (.load 6 true (.t 4)),
  .op (some 6) (.call (.v (.lit (.func (.func 97) #[] #[]))) [(.t 5)]),
  .op (some 7) (.faddr 0 (.t 3)),
  .op none (.store 6 (.t 7) (.t 6))])
 (.seq (.reg [.op (some 8) (.load 6 true (.t 3)),
  .op none (.store 6 (.t 2) (.t 8))])
 .ret))))
def rs80 : List RR := [.cell 2 6 true]
def cut80 : Nat → Nat := fun id => 0
theorem k80 : (Try.f80.body.bind fun c => comp Try.prog Try.f80.ntmps cut80 c) = some r80 := by kernel_rfl
theorem by80 {W0 : World} {σ : List Blk} {args : List AV} {K : Cont} (hn : args.length ≤ 9) (h : rW Try.prog W0 σ.length r80 (initFr args) σ (finP W0 rs80 σ.length K)) : ACall Try.prog W0 80 args σ K :=
  ACall.introR mixed Try.func80 (by kernel_rfl) k80 (by kernel_rfl) hn h
def r81 : RC := (.seq (.reg [.op (some 1) (.box 61 (.t 0)),
  .op (some 2) (.mv (.v (.lit (.bool false))))])
 (.seq (.reg [.op (some 3) (.faddr 0 (.t 1)),
  .op (some 4) (.load 6 true (.t 3)),
  .op (some 5) (.call (.v (.lit (.func (.func 109) #[] #[]))) [(.t 4)]),
  .op (some 6) (.mv (.t 5)),
  .grp 6 true [((some 7), (.faddr 6 (.t 1))), ((some 8), (.load 6 true (.t 7))), ((some 9), (.call (.v (.lit (.func (.func 109) #[] #[]))) [(.t 8)]))],
  .op (some 10) (.pick (.t 6) (.t 9) (.v (.lit (.bool false)))),
  .op (some 11) (.mv (.t 10)),
  .grp 11 true [((some 12), (.faddr 12 (.t 1))), ((some 13), (.load 1 false (.t 12))), ((some 14), (.binI .geq (.t 13) (.v (.lit (.int .i64 (0))))))],
  .op (some 15) (.pick (.t 11) (.t 14) (.v (.lit (.bool false)))),
  .op (some 16) (.mv (.t 15)),
  .grp 16 true [((some 17), (.faddr 12 (.t 1))), ((some 18), (.load 1 false (.t 17))), ((some 19), (.binI .leq (.t 18) (.v (.lit (.int .i64 (1000))))))],
  .op (some 20) (.pick (.t 16) (.t 19) (.v (.lit (.bool false)))),
  .op (some 21) (.mv (.t 20)),
  .grp 21 true [((some 22), (.faddr 13 (.t 1))), ((some 23), (.load 1 false (.t 22))), ((some 24), (.binI .geq (.t 23) (.v (.lit (.int .i64 (0))))))],
  .op (some 25) (.pick (.t 21) (.t 24) (.v (.lit (.bool false)))),
  .op (some 26) (.mv (.t 25)),
  .grp 26 true [((some 27), (.faddr 13 (.t 1))), ((some 28), (.load 1 false (.t 27))), ((some 29), (.binI .leq (.t 28) (.v (.lit (.int .i64 (1000))))))],
  .op (some 30) (.pick (.t 26) (.t 29) (.v (.lit (.bool false)))),
  .op (some 2) (.mv (.t 30))])
 .ret))
def rs81 : List RR := [.tmp 2]
def cut81 : Nat → Nat := fun id => 0
theorem k81 : (Try.f81.body.bind fun c => comp Try.prog Try.f81.ntmps cut81 c) = some r81 := by kernel_rfl
theorem by81 {W0 : World} {σ : List Blk} {args : List AV} {K : Cont} (hn : args.length ≤ 31) (h : rW Try.prog W0 σ.length r81 (initFr args) σ (finP W0 rs81 σ.length K)) : ACall Try.prog W0 81 args σ K :=
  ACall.introR mixed Try.func81 (by kernel_rfl) k81 (by kernel_rfl) hn h
def r82 : RC := (.seq (.reg [.op (some 2) (.box 61 (.t 0)),
  .op (some 3) (.box 65 (.t 1)),
  .op (some 4) (.alloc 61 (List.replicate 14 (.lit (.int .i64 (0))))),
  .op (some 5) (.mv (.v (.lit (.bool false))))])
 (.seq (.reg [.op (some 8) (.faddr 1 (.t 3)),
  .op (some 9) (.load 1 false (.t 8)),
  .op (some 10) (.faddr 2 (.t 3)),
  .op (some 11) (.load 1 false (.t 10)),
  .op (some 12) (.build [(.lit (.int .i64 (0))), (.lit (.int .i64 (0)))] [((0, 1), (.t 9)), ((1, 1), (.t 11))]),
  .op (some 6) (.alloc 81 [(.lit (.int .i64 (0))), (.lit (.int .i64 (0)))]),
  .op none (.store 2 (.t 6) (.t 12)),
  .op (some 7) (.mv (.v (.lit (.bool false))))])
 (.seq (.seq (.reg [.op (some 13) (.faddr 0 (.t 3)),
  .op (some 14) (.load 1 false (.t 13))])
 (.block 0 (.seq (.reg [.op (some 16) (.binI .eql (.t 14) (.v (.lit (.int .i64 (1))))),
  .op (some 15) (.mv (.t 16))])
 (.cond (.t 15)
 (.seq (.reg [.op (some 18) (.faddr 0 (.t 2)),
  .op (some 19) (.load 6 true (.t 18)),
  .op (some 20) (.faddr 6 (.t 2)),
  .op (some 21) (.load 6 true (.t 20)),
  .op (some 22) (.load 2 true (.t 6)),
  .op (some 23) (.call (.v (.lit (.func (.func 110) #[] #[]))) [(.t 19), (.t 21), (.t 22)]),
  .op (some 17) (.mv (.t 23)),
  .op (some 24) (.ext (.t 17) 0),
  .op (some 25) (.ext (.t 17) 1),
  .op (some 26) (.faddr 0 (.t 2)),
  .op none (.store 6 (.t 26) (.t 24)),
  .op (some 7) (.mv (.t 25))])
 (.reg [.op (some 27) (.faddr 12 (.t 2)),
  .op (some 28) (.load 1 false (.t 27)),
  .op (some 29) (.binI .add (.t 28) (.v (.lit (.int .i64 (1))))),
  .op (some 30) (.faddr 12 (.t 2)),
  .op none (.store 1 (.t 30) (.t 29))]))
 (.seq (.reg [.op (some 32) (.binI .eql (.t 14) (.v (.lit (.int .i64 (2))))),
  .op (some 31) (.mv (.t 32))])
 (.cond (.t 31)
 (.seq (.reg [.op (some 34) (.faddr 0 (.t 2)),
  .op (some 35) (.load 6 true (.t 34)),
  .op (some 36) (.faddr 6 (.t 2)),
  .op (some 37) (.load 6 true (.t 36)),
  .op (some 38) (.load 2 true (.t 6)),
  .op (some 39) (.call (.v (.lit (.func (.func 111) #[] #[]))) [(.t 35), (.t 37), (.t 38)]),
  .op (some 33) (.mv (.t 39)),
  .op (some 40) (.ext (.t 33) 0),
  .op (some 41) (.ext (.t 33) 1),
  .op (some 42) (.faddr 0 (.t 2)),
  .op none (.store 6 (.t 42) (.t 40)),
  .op (some 7) (.mv (.t 41))])
 (.reg [.op (some 43) (.faddr 12 (.t 2)),
  .op (some 44) (.load 1 false (.t 43)),
  .op (some 45) (.binI .add (.t 44) (.v (.lit (.int .i64 (1))))),
  .op (some 46) (.faddr 12 (.t 2)),
  .op none (.store 1 (.t 46) (.t 45))]))
 (.seq (.reg [.op (some 48) (.binI .eql (.t 14) (.v (.lit (.int .i64 (3))))),
  .op (some 47) (.mv (.t 48))])
 (.cond (.t 47)
 (.seq (.reg [.op (some 50) (.faddr 0 (.t 2)),
  .op (some 51) (.load 6 true (.t 50)),
  .op (some 52) (.faddr 6 (.t 2)),
  .op (some 53) (.load 6 true (.t 52)),
  .op (some 54) (.load 2 true (.t 6)),
  .op (some 55) (.call (.v (.lit (.func (.func 112) #[] #[]))) [(.t 51), (.t 53), (.t 54)]),
  .op (some 49) (.mv (.t 55)),
  .op (some 56) (.ext (.t 49) 0),
  .op (some 57) (.ext (.t 49) 1),
  .op (some 58) (.faddr 0 (.t 2)),
  .op none (.store 6 (.t 58) (.t 56)),
  .op (some 7) (.mv (.t 57))])
 (.reg [.op (some 59) (.faddr 12 (.t 2)),
  .op (some 60) (.load 1 false (.t 59)),
  .op (some 61) (.binI .add (.t 60) (.v (.lit (.int .i64 (1))))),
  .op (some 62) (.faddr 12 (.t 2)),
  .op none (.store 1 (.t 62) (.t 61))]))
 (.seq (.reg [.op (some 64) (.binI .eql (.t 14) (.v (.lit (.int .i64 (4))))),
  .op (some 63) (.mv (.t 64))])
 (.cond (.t 63)
 (.seq (.reg [.op (some 66) (.faddr 0 (.t 2)),
  .op (some 67) (.load 6 true (.t 66)),
  .op (some 68) (.faddr 1 (.t 3)),
  .op (some 69) (.load 1 false (.t 68)),
  .op (some 70) (.faddr 2 (.t 3)),
  .op (some 71) (.load 1 false (.t 70)),
  .op (some 72) (.call (.v (.lit (.func (.func 113) #[] #[]))) [(.t 67), (.t 69), (.t 71)]),
  .op (some 65) (.mv (.t 72)),
  .op (some 73) (.ext (.t 65) 0),
  .op (some 74) (.ext (.t 65) 1),
  .op (some 75) (.faddr 0 (.t 2)),
  .op none (.store 6 (.t 75) (.t 73)),
  .op (some 7) (.mv (.t 74))])
 (.reg [.op (some 76) (.mv (.t 7)),
  .op (some 77) (.mv (.t 76)),
  .grp 77 true [((some 78), (.load 2 true (.t 6))), ((some 79), (.call (.v (.lit (.func (.func 114) #[] #[]))) [(.t 78)]))],
  .op (some 80) (.pick (.t 77) (.t 79) (.v (.lit (.bool false)))),
  .op (some 7) (.mv (.t 80))]))
 (.seq (.reg [.op (some 82) (.binI .eql (.t 14) (.v (.lit (.int .i64 (5))))),
  .op (some 81) (.mv (.t 82))])
 (.cond (.t 81)
 (.seq (.reg [.op (some 84) (.faddr 6 (.t 2)),
  .op (some 85) (.load 6 true (.t 84)),
  .op (some 86) (.faddr 1 (.t 3)),
  .op (some 87) (.load 1 false (.t 86)),
  .op (some 88) (.call (.v (.lit (.func (.func 115) #[] #[]))) [(.t 85), (.t 87)]),
  .op (some 83) (.mv (.t 88)),
  .op (some 89) (.ext (.t 83) 0),
  .op (some 90) (.ext (.t 83) 1),
  .op (some 91) (.faddr 6 (.t 2)),
  .op none (.store 6 (.t 91) (.t 89)),
  .op (some 7) (.mv (.t 90))])
 (.reg [.op (some 92) (.mv (.t 7)),
  .op (some 93) (.mv (.t 92)),
  .grp 93 true [((some 94), (.faddr 2 (.t 3))), ((some 95), (.load 1 false (.t 94))), ((some 96), (.binI .eql (.t 95) (.v (.lit (.int .i64 (0))))))],
  .op (some 97) (.pick (.t 93) (.t 96) (.v (.lit (.bool false)))),
  .op (some 7) (.mv (.t 97))]))
 (.seq (.reg [.op (some 99) (.binI .eql (.t 14) (.v (.lit (.int .i64 (6))))),
  .op (some 98) (.mv (.t 99))])
 (.cond (.t 98)
 (.reg [.op (some 101) (.faddr 6 (.t 2)),
  .op (some 102) (.load 6 true (.t 101)),
  .op (some 103) (.load 2 true (.t 6)),
  .op (some 104) (.call (.v (.lit (.func (.func 116) #[] #[]))) [(.t 102), (.t 103)]),
  .op (some 100) (.mv (.t 104)),
  .op (some 105) (.ext (.t 100) 0),
  .op (some 106) (.ext (.t 100) 1),
  .op (some 107) (.faddr 6 (.t 2)),
  .op none (.store 6 (.t 107) (.t 105)),
  .op (some 7) (.mv (.t 106))])
 (.seq (.reg [.op (some 109) (.binI .eql (.t 14) (.v (.lit (.int .i64 (7))))),
  .op (some 108) (.mv (.t 109))])
 (.cond (.t 108)
 (.seq (.reg [.op (some 110) (.faddr 6 (.t 2)),
  .op (some 111) (.load 6 true (.t 110)),
  .op (some 112) (.faddr 0 (.t 2)),
  .op (some 113) (.load 6 true (.t 112)),
  .op (some 114) (.faddr 0 (.t 2)),
  .op none (.store 6 (.t 114) (.t 111)),
  .op (some 115) (.faddr 6 (.t 2)),
  .op none (.store 6 (.t 115) (.t 113))])
 (.reg [.op (some 116) (.load 2 true (.t 6)),
  .op (some 117) (.build [(.lit (.int .i64 (0))), (.lit (.int .i64 (0)))] []),
  .op (some 118) (.eqA false [.int, .int] (.t 116) (.t 117)),
  .op (some 7) (.mv (.t 118))]))
 .skip))))))))))))))))
 (.seq (.reg [.op (some 119) (.faddr 13 (.t 2)),
  .op (some 120) (.load 1 false (.t 119)),
  .op (some 121) (.binI .add (.t 120) (.v (.lit (.int .i64 (1))))),
  .op (some 122) (.faddr 13 (.t 2)),
  .op none (.store 1 (.t 122) (.t 121))])
 (.seq (.any true (.n ⟨none, (some 123), (.load 14 true (.t 2))⟩
 (.n ⟨none, (some 124), (.mv (.t 7))⟩
 (.n ⟨none, (some 125), (.mv (.t 124))⟩
 (.n ⟨(some (125, true)), (some 126), (.load 14 true (.t 2))⟩
 (.n ⟨(some (125, true)), (some 127), (.call (.v (.lit (.func (.func 81) #[] #[]))) [(.t 126)])⟩
 (.h ⟨none, (some 128), (.pick (.t 125) (.t 127) (.v (.lit (.bool false))))⟩
 (.t ⟨none, none, (.store 14 (.t 4) (.t 123))⟩
 (.n ⟨none, (some 5), (.mv (.t 128))⟩
 .fin)))))))))
 .ret)))))
def rs82 : List RR := [.cell 4 14 true, .tmp 5]
def cut82 : Nat → Nat := fun id => if id = 24 then 1000129 else 0
theorem k82 : (Try.f82.body.bind fun c => comp Try.prog Try.f82.ntmps cut82 c) = some r82 := by kernel_rfl
theorem by82 {W0 : World} {σ : List Blk} {args : List AV} {K : Cont} (hn : args.length ≤ 129) (h : rW Try.prog W0 σ.length r82 (initFr args) σ (finP W0 rs82 σ.length K)) : ACall Try.prog W0 82 args σ K :=
  ACall.introR mixed Try.func82 (by kernel_rfl) k82 (by kernel_rfl) hn h
def r83 : RC := (.seq (.reg [.op (some 2) (.box 59 (.t 0)),
  .op (some 3) (.box 59 (.t 1)),
  .op (some 4) (.mv (.v (.lit (.bool false))))])
 (.seq (.seq (.reg [.op (some 5) (.faddr 0 (.t 2)),
  .op (some 6) (.load 6 true (.t 5)),
  .op (some 7) (.faddr 0 (.t 3)),
  .op (some 8) (.load 6 true (.t 7)),
  .op (some 9) (.call (.v (.lit (.func (.func 117) #[] #[]))) [(.t 6), (.t 8)]),
  .op (some 10) (.un .not (.t 9))])
 (.cond (.t 10)
 (.seq (.reg [.op (some 4) (.mv (.v (.lit (.bool false))))])
 .ret)
 .skip))
 (.seq (.reg [.op (some 4) (.mv (.v (.lit (.bool true))))])
 .ret)))
def rs83 : List RR := [.tmp 4]
def cut83 : Nat → Nat := fun id => 0
theorem k83 : (Try.f83.body.bind fun c => comp Try.prog Try.f83.ntmps cut83 c) = some r83 := by kernel_rfl
theorem by83 {W0 : World} {σ : List Blk} {args : List AV} {K : Cont} (hn : args.length ≤ 11) (h : rW Try.prog W0 σ.length r83 (initFr args) σ (finP W0 rs83 σ.length K)) : ACall Try.prog W0 83 args σ K :=
  ACall.introR mixed Try.func83 (by kernel_rfl) k83 (by kernel_rfl) hn h
def r84 : RC := (.seq (.reg [.op (some 2) (.box 65 (.t 0)),
  .op (some 3) (.box 65 (.t 1)),
  .op (some 4) (.mv (.v (.lit (.bool false))))])
 (.seq (.seq (.reg [.op (some 5) (.faddr 0 (.t 2)),
  .op (some 6) (.load 1 false (.t 5)),
  .op (some 7) (.faddr 0 (.t 3)),
  .op (some 8) (.load 1 false (.t 7)),
  .op (some 9) (.binI .neq (.t 6) (.t 8))])
 (.cond (.t 9)
 (.seq (.reg [.op (some 4) (.mv (.v (.lit (.bool false))))])
 .ret)
 .skip))
 (.seq (.seq (.reg [.op (some 10) (.faddr 1 (.t 2)),
  .op (some 11) (.load 1 false (.t 10)),
  .op (some 12) (.faddr 1 (.t 3)),
  .op (some 13) (.load 1 false (.t 12)),
  .op (some 14) (.binI .neq (.t 11) (.t 13))])
 (.cond (.t 14)
 (.seq (.reg [.op (some 4) (.mv (.v (.lit (.bool false))))])
 .ret)
 .skip))
 (.seq (.seq (.reg [.op (some 15) (.faddr 2 (.t 2)),
  .op (some 16) (.load 1 false (.t 15)),
  .op (some 17) (.faddr 2 (.t 3)),
  .op (some 18) (.load 1 false (.t 17)),
  .op (some 19) (.binI .neq (.t 16) (.t 18))])
 (.cond (.t 19)
 (.seq (.reg [.op (some 4) (.mv (.v (.lit (.bool false))))])
 .ret)
 .skip))
 (.seq (.reg [.op (some 4) (.mv (.v (.lit (.bool true))))])
 .ret)))))
def rs84 : List RR := [.tmp 4]
def cut84 : Nat → Nat := fun id => 0
theorem k84 : (Try.f84.body.bind fun c => comp Try.prog Try.f84.ntmps cut84 c) = some r84 := by kernel_rfl
theorem by84 {W0 : World} {σ : List Blk} {args : List AV} {K : Cont} (hn : args.length ≤ 20) (h : rW Try.prog W0 σ.length r84 (initFr args) σ (finP W0 rs84 σ.length K)) : ACall Try.prog W0 84 args σ K :=
  ACall.introR mixed Try.func84 (by kernel_rfl) k84 (by kernel_rfl) hn h
def r85 : RC := (.seq (.reg [.op (some 1) (.box 83 (.t 0)),
  .op (some 2) (.mv (.v (.lit (.bool false))))])
 (.seq (.reg [.op (some 3) (.faddr 0 (.t 1)),
  .op (some 4) (.load 1 false (.t 3)),
  .op (some 5) (.call (.v (.lit (.func (.func 95) #[] #[]))) [(.t 4), (.v (.lit (.int .i64 (1)))), (.v (.lit (.int .i64 (4))))]),
  .op (some 6) (.mv (.t 5)),
  .grp 6 true [((some 7), (.faddr 1 (.t 1))), ((some 8), (.load 6 true (.t 7))), ((some 9), (.call (.v (.lit (.func (.func 107) #[] #[]))) [(.t 8)]))],
  .op (some 10) (.pick (.t 6) (.t 9) (.v (.lit (.bool false)))),
  .op (some 11) (.mv (.t 10)),
  .grp 11 true [((some 12), (.faddr 7 (.t 1))), ((some 13), (.load 2 true (.t 12))), ((some 14), (.call (.v (.lit (.func (.func 118) #[] #[]))) [(.t 13)]))],
  .op (some 15) (.pick (.t 11) (.t 14) (.v (.lit (.bool false)))),
  .op (some 2) (.mv (.t 15))])
 .ret))
def rs85 : List RR := [.tmp 2]
def cut85 : Nat → Nat := fun id => 0
theorem k85 : (Try.f85.body.bind fun c => comp Try.prog Try.f85.ntmps cut85 c) = some r85 := by kernel_rfl
theorem by85 {W0 : World} {σ : List Blk} {args : List AV} {K : Cont} (hn : args.length ≤ 16) (h : rW Try.prog W0 σ.length r85 (initFr args) σ (finP W0 rs85 σ.length K)) : ACall Try.prog W0 85 args σ K :=
  ACall.introR mixed Try.func85 (by kernel_rfl) k85 (by kernel_rfl) hn h
def r86 : RC := (.seq (.reg [.op (some 2) (.box 59 (.t 0)),
  .op (some 3) (.box 81 (.t 1)),
  .op (some 4) (.alloc 59 (List.replicate 6 (.lit (.int .i64 (0)))))])
 (.seq (.reg [.op (some 5) (.load 6 true (.t 2)),
  .op (some 6) (.iaddrA 2 1 (.t 3) (.v (.lit (.int .i64 (0))))),
  .op (some 7) (.load 1 false (.t 6)),
  .op (some 8) (.iaddrA 2 1 (.t 3) (.v (.lit (.int .i64 (1))))),
  .op (some 9) (.load 1 false (.t 8)),
  .op (some 10) (.call (.v (.lit (.func (.func 119) #[] #[]))) [(.t 5), (.t 7), (.t 9)]),
  .op none (.store 6 (.t 4) (.t 10))])
 .ret))
def rs86 : List RR := [.cell 4 6 true]
def cut86 : Nat → Nat := fun id => 0
theorem k86 : (Try.f86.body.bind fun c => comp Try.prog Try.f86.ntmps cut86 c) = some r86 := by kernel_rfl
theorem by86 {W0 : World} {σ : List Blk} {args : List AV} {K : Cont} (hn : args.length ≤ 11) (h : rW Try.prog W0 σ.length r86 (initFr args) σ (finP W0 rs86 σ.length K)) : ACall Try.prog W0 86 args σ K :=
  ACall.introR mixed Try.func86 (by kernel_rfl) k86 (by kernel_rfl) hn h
def r87 : RC := (.seq (.reg [.op (some 1) (.box 81 (.t 0)),
  .op (some 2) (.alloc 81 [(.lit (.int .i64 (0))), (.lit (.int .i64 (0)))])])
 (.seq (.reg [.op (some 3) (.alloc 81 [(.lit (.int .i64 (0))), (.lit (.int .i64 (0)))])])
 (.seq (.seq (.reg [.op (some 4) (.mv (.v (.lit (.int .i64 (0)))))])
 (.block 0 (.loop (.seq (.seq (.reg [.op (some 5) (.mv (.t 4)),
  .op (some 6) (.binI .lss (.t 5) (.v (.lit (.int .i64 (2)))))])
 (.cond (.t 6)
 .skip
 (.exit 0)))
 (.seq (.block 1 (.reg [.op (some 9) (.mv (.t 4)),
  .op (some 10) (.mv (.t 4)),
  .op (some 11) (.iaddrA 2 1 (.t 1) (.t 10)),
  .op (some 12) (.load 1 false (.t 11)),
  .op (some 13) (.iaddrA 2 1 (.t 3) (.t 9)),
  .op none (.store 1 (.t 13) (.t 12))]))
 (.reg [.op (some 7) (.mv (.t 4)),
  .op (some 8) (.binI .add (.t 7) (.v (.lit (.int .i64 (1))))),
  .op (some 4) (.mv (.t 8))]))))))
 (.seq (.reg [.op (some 14) (.load 2 true (.t 3)),
  .op none (.store 2 (.t 2) (.t 14))])
 .ret))))
def rs87 : List RR := [.cell 2 2 true]
def cut87 : Nat → Nat := fun id => 0
theorem k87 : (Try.f87.body.bind fun c => comp Try.prog Try.f87.ntmps cut87 c) = some r87 := by kernel_rfl
theorem by87 {W0 : World} {σ : List Blk} {args : List AV} {K : Cont} (hn : args.length ≤ 15) (h : rW Try.prog W0 σ.length r87 (initFr args) σ (finP W0 rs87 σ.length K)) : ACall Try.prog W0 87 args σ K :=
  ACall.introR mixed Try.func87 (by kernel_rfl) k87 (by kernel_rfl) hn h
def r88 : RC := (.seq (.reg [.op (some 1) (.box 83 (.t 0)),
  .op (some 2) (.mv (.v (.lit (.bool false))))])
 (.seq (.reg [.op (some 3) (.faddr 0 (.t 1)),
  .op (some 4) (.load 1 false (.t 3)),
  .op (some 5) (.binI .geq (.t 4) (.v (.lit (.int .i64 (1))))),
  .op (some 6) (.mv (.t 5)),
  .grp 6 true [((some 7), (.faddr 0 (.t 1))), ((some 8), (.load 1 false (.t 7))), ((some 9), (.binI .leq (.t 8) (.v (.lit (.int .i64 (4))))))],
  .op (some 10) (.pick (.t 6) (.t 9) (.v (.lit (.bool false)))),
  .op (some 11) (.mv (.t 10)),
  .grp 11 true [((some 12), (.faddr 1 (.t 1))), ((some 13), (.load 6 true (.t 12))), ((some 14), (.call (.v (.lit (.func (.func 109) #[] #[]))) [(.t 13)]))],
  .op (some 15) (.pick (.t 11) (.t 14) (.v (.lit (.bool false)))),
  .op (some 16) (.mv (.t 15)),
  .grp 16 true [((some 17), (.faddr 7 (.t 1))), ((some 18), (.load 2 true (.t 17))), ((some 19), (.call (.v (.lit (.func (.func 114) #[] #[]))) [(.t 18)]))],
  .op (some 20) (.pick (.t 16) (.t 19) (.v (.lit (.bool false)))),
  .op (some 2) (.mv (.t 20))])
 .ret))
def rs88 : List RR := [.tmp 2]
def cut88 : Nat → Nat := fun id => 0
theorem k88 : (Try.f88.body.bind fun c => comp Try.prog Try.f88.ntmps cut88 c) = some r88 := by kernel_rfl
theorem by88 {W0 : World} {σ : List Blk} {args : List AV} {K : Cont} (hn : args.length ≤ 21) (h : rW Try.prog W0 σ.length r88 (initFr args) σ (finP W0 rs88 σ.length K)) : ACall Try.prog W0 88 args σ K :=
  ACall.introR mixed Try.func88 (by kernel_rfl) k88 (by kernel_rfl) hn h
def r89 : RC := (.seq (.reg [.op (some 1) (.box 59 (.t 0)),
  .op (some 2) (.mv (.v (.lit (.int .u64 (0))))),
  .op (some 3) (.mv (.v (.lit (.bool false))))])
 (.seq (.reg [.op (some 4) (.mv (.v (.lit (.int .u64 (0)))))])
 (.seq (.seq (.reg [.op (some 7) (.faddr 0 (.t 1)),
  .op (some 8) (.load 6 true (.t 7)),
  .op (some 9) (.mv (.v (.lit (.int .i64 (0)))))])
 (.block 0 (.loop (.seq (.reg [.op (some 10) (.binI .lss (.t 9) (.v (.lit (.int .i64 (6)))))])
 (.seq (.cond (.t 10)
 .skip
 (.exit 0))
 (.seq (.block 1 (.seq (.reg [.op (some 11) (.mv (.t 9)),
  .op (some 12) (.idxA 6 1 false (.t 8) (.t 9)),
  .op (some 5) (.mv (.t 11)),
  .op (some 6) (.mv (.t 12))])
 (.seq (.seq (.reg [.op (some 13) (.mv (.t 6)),
  .op (some 14) (.binI .lss (.t 13) (.v (.lit (.int .i64 (0))))),
  .op (some 15) (.mv (.t 14)),
  .grp 15 false [((some 16), (.mv (.t 6))), ((some 17), (.binI .gtr (.t 16) (.v (.lit (.int .i64 (63))))))],
  .op (some 18) (.pick (.t 15) (.v (.lit (.bool true))) (.t 17))])
 (.cond (.t 18)
 (.seq (.reg [.op (some 2) (.mv (.v (.lit (.int .u64 (0))))),
  .op (some 3) (.mv (.v (.lit (.bool false))))])
 .ret)
 .skip))
 (.reg [.op (some 19) (.mv (.t 4)),
  .op (some 20) (.mv (.t 6)),
  .op (some 21) (.conv .u64 (.t 20)),
  .op (some 22) (.mv (.t 5)),
  .op (some 23) (.binI .mul (.t 22) (.v (.lit (.int .i64 (6))))),
  .op (some 24) (.binI .shl (.t 21) (.t 23)),
  .op (some 25) (.binI .or (.t 19) (.t 24)),
  .op (some 4) (.mv (.t 25))]))))
 (.reg [.op (some 26) (.binI .add (.t 9) (.v (.lit (.int .i64 (1))))),
  .op (some 9) (.mv (.t 26))])))))))
 (.seq (.reg [.op (some 27) (.mv (.t 4)),
  .op (some 2) (.mv (.t 27)),
  .op (some 3) (.mv (.v (.lit (.bool true))))])
 .ret))))
def rs89 : List RR := [.tmp 2, .tmp 3]
def cut89 : Nat → Nat := fun id => 0
theorem k89 : (Try.f89.body.bind fun c => comp Try.prog Try.f89.ntmps cut89 c) = some r89 := by kernel_rfl
theorem by89 {W0 : World} {σ : List Blk} {args : List AV} {K : Cont} (hn : args.length ≤ 28) (h : rW Try.prog W0 σ.length r89 (initFr args) σ (finP W0 rs89 σ.length K)) : ACall Try.prog W0 89 args σ K :=
  ACall.introR mixed Try.func89 (by kernel_rfl) k89 (by kernel_rfl) hn h
def r90 : RC := (.seq (.reg [.op (some 4) (.mv (.v (.lit (.int .u64 (0)))))])
 (.seq (.reg [.op (some 5) (.mv (.t 0)),
  .op (some 6) (.mv (.t 1)),
  .op (some 7) (.binI .rem (.t 6) (.v (.lit (.int .i64 (6))))),
  .op (some 8) (.mv (.t 1)),
  .op (some 9) (.binI .quo (.t 8) (.v (.lit (.int .i64 (6))))),
  .op (some 10) (.call (.v (.lit (.func (.func 120) #[] #[]))) [(.t 5), (.t 7), (.t 9)]),
  .op (some 4) (.mv (.t 10))])
 .ret))
def rs90 : List RR := [.tmp 4]
def cut90 : Nat → Nat := fun id => 0
theorem k90 : (Try.f90.body.bind fun c => comp Try.prog Try.f90.ntmps cut90 c) = some r90 := by kernel_rfl
theorem by90 {W0 : World} {σ : List Blk} {args : List AV} {K : Cont} (hn : args.length ≤ 11) (h : rW Try.prog W0 σ.length r90 (initFr args) σ (finP W0 rs90 σ.length K)) : ACall Try.prog W0 90 args σ K :=
  ACall.introR mixed Try.func90 (by kernel_rfl) k90 (by kernel_rfl) hn h
def r91 : RC := (.seq (.reg [.op (some 1) (.box 81 (.t 0)),
  .op (some 2) (.mv (.v (.lit (.int .i64 (0)))))])
 (.seq (.reg [.op (some 3) (.iaddrA 2 1 (.t 1) (.v (.lit (.int .i64 (1))))),
  .op (some 4) (.load 1 false (.t 3)),
  .op (some 5) (.binI .mul (.t 4) (.v (.lit (.int .i64 (6))))),
  .op (some 6) (.iaddrA 2 1 (.t 1) (.v (.lit (.int .i64 (0))))),
  .op (some 7) (.load 1 false (.t 6)),
  .op (some 8) (.binI .add (.t 5) (.t 7)),
  .op (some 2) (.mv (.t 8))])
 .ret))
def rs91 : List RR := [.tmp 2]
def cut91 : Nat → Nat := fun id => 0
theorem k91 : (Try.f91.body.bind fun c => comp Try.prog Try.f91.ntmps cut91 c) = some r91 := by kernel_rfl
theorem by91 {W0 : World} {σ : List Blk} {args : List AV} {K : Cont} (hn : args.length ≤ 9) (h : rW Try.prog W0 σ.length r91 (initFr args) σ (finP W0 rs91 σ.length K)) : ACall Try.prog W0 91 args σ K :=
  ACall.introR mixed Try.func91 (by kernel_rfl) k91 (by kernel_rfl) hn h
def r92 : RC := (.seq (.reg [.op (some 1) (.box 59 (.t 0)),
  .op (some 2) (.alloc 59 (List.replicate 6 (.lit (.int .i64 (0)))))])
 (.seq (.seq (.reg [.op (some 3) (.mv (.v (.lit (.int .i64 (0)))))])
 (.block 0 (.loop (.seq (.seq (.reg [.op (some 4) (.mv (.t 3)),
  .op (some 5) (.binI .lss (.t 4) (.v (.lit (.int .i64 (6)))))])
 (.cond (.t 5)
 .skip
 (.exit 0)))
 (.seq (.block 1 (.reg [.op (some 8) (.mv (.t 3)),
  .op (some 9) (.mv (.t 3)),
  .op (some 10) (.faddr 0 (.t 1)),
  .op (some 11) (.iaddrA 6 1 (.t 10) (.t 9)),
  .op (some 12) (.load 1 false (.t 11)),
  .op (some 13) (.binI .sub (.v (.lit (.int .i64 (63)))) (.t 12)),
  .op (some 14) (.faddr 0 (.t 1)),
  .op (some 15) (.iaddrA 6 1 (.t 14) (.t 8)),
  .op none (.store 1 (.t 15) (.t 13))]))
 (.reg [.op (some 6) (.mv (.t 3)),
  .op (some 7) (.binI .add (.t 6) (.v (.lit (.int .i64 (1))))),
  .op (some 3) (.mv (.t 7))]))))))
 (.seq (.reg [.op (some 16) (.load 6 true (.t 1)),
  .op none (.store 6 (.t 2) (.t 16))])
 .ret)))
def rs92 : List RR := [.cell 2 6 true]
def cut92 : Nat → Nat := fun id => 0
theorem k92 : (Try.f92.body.bind fun c => comp Try.prog Try.f92.ntmps cut92 c) = some r92 := by kernel_rfl
theorem by92 {W0 : World} {σ : List Blk} {args : List AV} {K : Cont} (hn : args.length ≤ 17) (h : rW Try.prog W0 σ.length r92 (initFr args) σ (finP W0 rs92 σ.length K)) : ACall Try.prog W0 92 args σ K :=
  ACall.introR mixed Try.func92 (by kernel_rfl) k92 (by kernel_rfl) hn h
def r93 : RC := (.seq (.reg [.op (some 2) (.box 59 (.t 0)),
  .op (some 3) (.box 59 (.t 1)),
  .op (some 4) (.alloc 59 (List.replicate 6 (.lit (.int .i64 (0)))))])
 (.seq (.seq (.reg [.op (some 5) (.mv (.v (.lit (.int .i64 (0)))))])
 (.block 0 (.loop (.seq (.seq (.reg [.op (some 6) (.mv (.t 5)),
  .op (some 7) (.binI .lss (.t 6) (.v (.lit (.int .i64 (6)))))])
 (.cond (.t 7)
 .skip
 (.exit 0)))
 (.seq (.block 1 (.quiet [.op (some 10) (.mv (.t 5)),
  .op (some 11) (.mv (.t 5)),
  .op (some 12) (.faddr 0 (.t 2)),
  .op (some 13) (.iaddrA 6 1 (.t 12) (.t 11)),
  .op (some 14) (.load 1 false (.t 13)),
  .op (some 15) (.mv (.t 5)),
  .op (some 16) (.faddr 0 (.t 3)),
  .op (some 17) (.iaddrA 6 1 (.t 16) (.t 15)),
  .op (some 18) (.load 1 false (.t 17)),
  .op (some 19) (.binI .or (.t 14) (.t 18)),
  .op (some 20) (.faddr 0 (.t 2)),
  .op (some 21) (.iaddrA 6 1 (.t 20) (.t 10))] [.op none (.store 1 (.t 21) (.t 19))]))
 (.reg [.op (some 8) (.mv (.t 5)),
  .op (some 9) (.binI .add (.t 8) (.v (.lit (.int .i64 (1))))),
  .op (some 5) (.mv (.t 9))]))))))
 (.seq (.reg [.op (some 22) (.load 6 true (.t 2)),
  .op none (.store 6 (.t 4) (.t 22))])
 .ret)))
def rs93 : List RR := [.cell 4 6 true]
def cut93 : Nat → Nat := fun id => if id = 4 then 24 else 0
theorem k93 : (Try.f93.body.bind fun c => comp Try.prog Try.f93.ntmps cut93 c) = some r93 := by kernel_rfl
theorem by93 {W0 : World} {σ : List Blk} {args : List AV} {K : Cont} (hn : args.length ≤ 23) (h : rW Try.prog W0 σ.length r93 (initFr args) σ (finP W0 rs93 σ.length K)) : ACall Try.prog W0 93 args σ K :=
  ACall.introR mixed Try.func93 (by kernel_rfl) k93 (by kernel_rfl) hn h
def r94 : RC := (.seq (.reg [.op (some 4) (.mv (.t 0)),
  .op (some 5) (.lenL (.t 4)),
  .op (some 6) (.binI .sub (.t 5) (.v (.lit (.int .i64 (1))))),
  .op (some 2) (.mv (.v (.lit (.int .i64 (0))))),
  .op (some 3) (.mv (.t 6))])
 (.block 0 (.loop (.seq (.seq (.reg [.op (some 7) (.mv (.t 2)),
  .op (some 8) (.mv (.t 3)),
  .op (some 9) (.binI .lss (.t 7) (.t 8))])
 (.cond (.t 9)
 .skip
 (.exit 0)))
 (.seq (.block 1 (.any true (.n ⟨none, (some 14), (.mv (.t 0))⟩
 (.n ⟨none, (some 15), (.mv (.t 2))⟩
 (.h ⟨none, (some 16), (.mv (.t 0))⟩
 (.h ⟨none, (some 17), (.mv (.t 3))⟩
 (.n ⟨none, (some 18), (.mv (.t 0))⟩
 (.n ⟨none, (some 19), (.mv (.t 3))⟩
 (.n ⟨none, (some 20), (.iaddrS 1 (.t 18) (.t 19))⟩
 (.n ⟨none, (some 21), (.load 1 false (.t 20))⟩
 (.n ⟨none, (some 22), (.mv (.t 0))⟩
 (.n ⟨none, (some 23), (.mv (.t 2))⟩
 (.n ⟨none, (some 24), (.iaddrS 1 (.t 22) (.t 23))⟩
 (.n ⟨none, (some 25), (.load 1 false (.t 24))⟩
 (.n ⟨none, (some 26), (.iaddrS 1 (.t 14) (.t 15))⟩
 (.t ⟨none, none, (.store 1 (.t 26) (.t 21))⟩
 (.n ⟨none, (some 27), (.iaddrS 1 (.t 16) (.t 17))⟩
 (.t ⟨none, none, (.store 1 (.t 27) (.t 25))⟩
 .fin))))))))))))))))))
 (.reg [.op (some 10) (.mv (.t 2)),
  .op (some 11) (.binI .add (.t 10) (.v (.lit (.int .i64 (1))))),
  .op (some 12) (.mv (.t 3)),
  .op (some 13) (.binI .sub (.t 12) (.v (.lit (.int .i64 (1))))),
  .op (some 2) (.mv (.t 11)),
  .op (some 3) (.mv (.t 13))]))))))
def rs94 : List RR := []
def cut94 : Nat → Nat := fun id => if id = 3 then 1081921 else 0
theorem k94 : (Try.f94.body.bind fun c => comp Try.prog Try.f94.ntmps cut94 c) = some r94 := by kernel_rfl
theorem by94 {W0 : World} {σ : List Blk} {args : List AV} {K : Cont} (hn : args.length ≤ 28) (h : rW Try.prog W0 σ.length r94 (initFr args) σ (finP W0 rs94 σ.length K)) : ACall Try.prog W0 94 args σ K :=
  ACall.introR mixed Try.func94 (by kernel_rfl) k94 (by kernel_rfl) hn h
def r95 : RC := (.seq (.reg [.op (some 6) (.mv (.v (.lit (.bool false))))])
 (.seq (.reg [.op (some 7) (.mv (.t 0)),
  .op (some 8) (.mv (.t 1)),
  .op (some 9) (.binI .geq (.t 7) (.t 8)),
  .op (some 10) (.mv (.t 9)),
  .grp 10 true [((some 11), (.mv (.t 0))), ((some 12), (.mv (.t 2))), ((some 13), (.binI .leq (.t 11) (.t 12)))],
  .op (some 14) (.pick (.t 10) (.t 13) (.v (.lit (.bool false)))),
  .op (some 6) (.mv (.t 14))])
 .ret))
def rs95 : List RR := [.tmp 6]
def cut95 : Nat → Nat := fun id => 0
theorem k95 : (Try.f95.body.bind fun c => comp Try.prog Try.f95.ntmps cut95 c) = some r95 := by kernel_rfl
theorem by95 {W0 : World} {σ : List Blk} {args : List AV} {K : Cont} (hn : args.length ≤ 15) (h : rW Try.prog W0 σ.length r95 (initFr args) σ (finP W0 rs95 σ.length K)) : ACall Try.prog W0 95 args σ K :=
  ACall.introR mixed Try.func95 (by kernel_rfl) k95 (by kernel_rfl) hn h
def r96 : RC := (.seq (.reg [.op (some 3) (.box 59 (.t 0)),
  .op (some 6) (.mv (.v (.lit (.bool false))))])
 (.seq (.reg [.op (some 7) (.mv (.t 2)),
  .op (some 8) (.faddr 0 (.t 3)),
  .op (some 9) (.iaddrA 6 1 (.t 8) (.t 7)),
  .op (some 10) (.load 1 false (.t 9)),
  .op (some 11) (.mv (.t 1)),
  .op (some 12) (.binI .shr (.t 10) (.t 11)),
  .op (some 13) (.binI .and (.t 12) (.v (.lit (.int .i64 (1))))),
  .op (some 14) (.binI .eql (.t 13) (.v (.lit (.int .i64 (1))))),
  .op (some 6) (.mv (.t 14))])
 .ret))
def rs96 : List RR := [.tmp 6]
def cut96 : Nat → Nat := fun id => 0
theorem k96 : (Try.f96.body.bind fun c => comp Try.prog Try.f96.ntmps cut96 c) = some r96 := by kernel_rfl
theorem by96 {W0 : World} {σ : List Blk} {args : List AV} {K : Cont} (hn : args.length ≤ 15) (h : rW Try.prog W0 σ.length r96 (initFr args) σ (finP W0 rs96 σ.length K)) : ACall Try.prog W0 96 args σ K :=
  ACall.introR mixed Try.func96 (by kernel_rfl) k96 (by kernel_rfl) hn h
def r97 : RC := (.seq (.reg [.op (some 1) (.box 39 (.t 0)),
  .op (some 2) (.alloc 39 (List.replicate 6 (.lit (.int .i64 (0)))))])
 (.seq (.reg [.op (some 3) (.alloc 39 (List.replicate 6 (.lit (.int .i64 (0)))))])
 (.seq (.seq (.reg [.op (some 4) (.mv (.v (.lit (.int .i64 (0)))))])
 (.block 0 (.loop (.seq (.seq (.reg [.op (some 5) (.mv (.t 4)),
  .op (some 6) (.binI .lss (.t 5) (.v (.lit (.int .i64 (6)))))])
 (.cond (.t 6)
 .skip
 (.exit 0)))
 (.seq (.block 1 (.reg [.op (some 9) (.mv (.t 4)),
  .op (some 10) (.mv (.t 4)),
  .op (some 11) (.iaddrA 6 1 (.t 1) (.t 10)),
  .op (some 12) (.load 1 false (.t 11)),
  .op (some 13) (.iaddrA 6 1 (.t 3) (.t 9)),
  .op none (.store 1 (.t 13) (.t 12))]))
 (.reg [.op (some 7) (.mv (.t 4)),
  .op (some 8) (.binI .add (.t 7) (.v (.lit (.int .i64 (1))))),
  .op (some 4) (.mv (.t 8))]))))))
 (.seq (.reg [.op (some 14) (.load 6 true (.t 3)),
  .op none (.store 6 (.t 2) (.t 14))])
 .ret))))
def rs97 : List RR := [.cell 2 6 true]
def cut97 : Nat → Nat := fun id => 0
theorem k97 : (Try.f97.body.bind fun c => comp Try.prog Try.f97.ntmps cut97 c) = some r97 := by kernel_rfl
theorem by97 {W0 : World} {σ : List Blk} {args : List AV} {K : Cont} (hn : args.length ≤ 15) (h : rW Try.prog W0 σ.length r97 (initFr args) σ (finP W0 rs97 σ.length K)) : ACall Try.prog W0 97 args σ K :=
  ACall.introR mixed Try.func97 (by kernel_rfl) k97 (by kernel_rfl) hn h
def r98 : RC := (.seq (.reg [.op (some 2) (.mv (.v (.lit (.int .u64 (0)))))])
 (.seq (.reg [.op (some 3) (.mv (.v (.lit (.int .u64 (0)))))])
 (.seq (.seq (.reg [.op (some 5) (.mv (.v (.lit (.int .i64 (0)))))])
 (.block 0 (.loop (.seq (.reg [.op (some 6) (.binI .lss (.t 5) (.v (.lit (.int .i64 (36)))))])
 (.seq (.cond (.t 6)
 .skip
 (.exit 0))
 (.seq (.block 1 (.seq (.reg [.op (some 7) (.mv (.t 5)),
  .op (some 4) (.mv (.t 7))])
 (.seq (.reg [.op (some 8) (.mv (.t 0)),
  .op (some 9) (.mv (.t 4)),
  .op (some 10) (.call (.t 8) [(.t 9)])])
 (.cond (.t 10)
 (.reg [.op (some 11) (.mv (.t 3)),
  .op (some 12) (.mv (.t 4)),
  .op (some 13) (.binI .shl (.v (.lit (.int .u64 (1)))) (.t 12)),
  .op (some 14) (.binI .or (.t 11) (.t 13)),
  .op (some 3) (.mv (.t 14))])
 .skip))))
 (.reg [.op (some 15) (.binI .add (.t 5) (.v (.lit (.int .i64 (1))))),
  .op (some 5) (.mv (.t 15))])))))))
 (.seq (.reg [.op (some 16) (.mv (.t 3)),
  .op (some 2) (.mv (.t 16))])
 .ret))))
def rs98 : List RR := [.tmp 2]
def cut98 : Nat → Nat := fun id => 0
theorem k98 : (Try.f98.body.bind fun c => comp Try.prog Try.f98.ntmps cut98 c) = some r98 := by kernel_rfl
theorem by98 {W0 : World} {σ : List Blk} {args : List AV} {K : Cont} (hn : args.length ≤ 17) (h : rW Try.prog W0 σ.length r98 (initFr args) σ (finP W0 rs98 σ.length K)) : ACall Try.prog W0 98 args σ K :=
  ACall.introR mixed Try.func98 (by kernel_rfl) k98 (by kernel_rfl) hn h
def r99 : RC := (.seq (.reg [.op (some 4) (.mv (.v (.lit (.bool false))))])
 (.seq (.draw [((some 5), (.mv (.t 0))), ((some 6), (.binI .quo (.t 5) (.v (.lit (.int .i64 (6)))))), ((some 7), (.mv (.t 0))), ((some 8), (.binI .rem (.t 7) (.v (.lit (.int .i64 (6)))))), ((some 9), (.faddr 0 (.t 1))), ((some 10), (.iaddrA 6 6 (.t 9) (.t 6))), ((some 11), (.iaddrA 6 1 (.t 10) (.t 8))), ((some 12), (.load 1 false (.t 11))), ((some 13), (.load 1 false (.t 2))), ((some 14), (.binI .eql (.t 12) (.t 13))), ((some 4), (.mv (.t 14)))] [])
 .ret))
def rs99 : List RR := [.tmp 4]
def cut99 : Nat → Nat := fun id => if id = 1 then 23 else 0
theorem k99 : (Try.f99.body.bind fun c => comp Try.prog Try.f99.ntmps cut99 c) = some r99 := by kernel_rfl
theorem by99 {W0 : World} {σ : List Blk} {args : List AV} {K : Cont} (hn : args.length ≤ 15) (h : rW Try.prog W0 σ.length r99 (initFr args) σ (finP W0 rs99 σ.length K)) : ACall Try.prog W0 99 args σ K :=
  ACall.introR mixed Try.func99 (by kernel_rfl) k99 (by kernel_rfl) hn h
def r100 : RC := (.seq (.reg [.op (some 4) (.mv (.v (.lit (.bool false))))])
 (.seq (.seq (.reg [.op (some 5) (.mv (.v (.lit (.int .i64 (0)))))])
 (.block 0 (.loop (.seq (.seq (.reg [.op (some 6) (.mv (.t 5)),
  .op (some 7) (.mv (.t 0)),
  .op (some 8) (.lenL (.t 7)),
  .op (some 9) (.binI .lss (.t 6) (.t 8))])
 (.cond (.t 9)
 .skip
 (.exit 0)))
 (.seq (.block 1 (.seq (.reg [.op (some 12) (.mv (.t 0)),
  .op (some 13) (.mv (.t 5)),
  .op (some 14) (.iaddrS 1 (.t 12) (.t 13)),
  .op (some 15) (.load 1 false (.t 14)),
  .op (some 16) (.mv (.t 1)),
  .op (some 17) (.binI .eql (.t 15) (.t 16))])
 (.cond (.t 17)
 (.seq (.reg [.op (some 4) (.mv (.v (.lit (.bool true))))])
 .ret)
 .skip)))
 (.reg [.op (some 10) (.mv (.t 5)),
  .op (some 11) (.binI .add (.t 10) (.v (.lit (.int .i64 (1))))),
  .op (some 5) (.mv (.t 11))]))))))
 (.seq (.reg [.op (some 4) (.mv (.v (.lit (.bool false))))])
 .ret)))
def rs100 : List RR := [.tmp 4]
def cut100 : Nat → Nat := fun id => 0
theorem k100 : (Try.f100.body.bind fun c => comp Try.prog Try.f100.ntmps cut100 c) = some r100 := by kernel_rfl
theorem by100 {W0 : World} {σ : List Blk} {args : List AV} {K : Cont} (hn : args.length ≤ 18) (h : rW Try.prog W0 σ.length r100 (initFr args) σ (finP W0 rs100 σ.length K)) : ACall Try.prog W0 100 args σ K :=
  ACall.introR mixed Try.func100 (by kernel_rfl) k100 (by kernel_rfl) hn h
def r101 : RC := (.seq (.reg [.op (some 4) (.mv (.v (.lit (.bool false))))])
 (.seq (.reg [.op (some 5) (.mv (.t 0)),
  .op (some 6) (.mv (.t 1)),
  .op (some 7) (.call (.v (.lit (.func (.func 121) #[] #[]))) [(.t 5), (.t 6)]),
  .op (some 8) (.binI .geq (.t 7) (.v (.lit (.int .i64 (0))))),
  .op (some 4) (.mv (.t 8))])
 .ret))
def rs101 : List RR := [.tmp 4]
def cut101 : Nat → Nat := fun id => 0
theorem k101 : (Try.f101.body.bind fun c => comp Try.prog Try.f101.ntmps cut101 c) = some r101 := by kernel_rfl
theorem by101 {W0 : World} {σ : List Blk} {args : List AV} {K : Cont} (hn : args.length ≤ 9) (h : rW Try.prog W0 σ.length r101 (initFr args) σ (finP W0 rs101 σ.length K)) : ACall Try.prog W0 101 args σ K :=
  ACall.introR mixed Try.func101 (by kernel_rfl) k101 (by kernel_rfl) hn h
def r102 : RC := (.seq (.reg [.op (some 2) (.mv (.v (.lit (.slice none 0 0))))])
 (.seq (.reg [.op (some 5) (.bslice 3 1 0 [(.lit (.int .i64 (0)))] []),
  .op (some 3) (.mv (.t 5))])
 (.seq (.seq (.reg [.op (some 6) (.mv (.v (.lit (.int .i64 (0)))))])
 (.block 0 (.loop (.seq (.reg [.op (some 7) (.binI .lss (.t 6) (.v (.lit (.int .i64 (36)))))])
 (.seq (.cond (.t 7)
 .skip
 (.exit 0))
 (.seq (.block 1 (.seq (.reg [.op (some 8) (.mv (.t 6)),
  .op (some 4) (.mv (.t 8))])
 (.seq (.reg [.op (some 9) (.mv (.t 0)),
  .op (some 10) (.mv (.t 4)),
  .op (some 11) (.call (.v (.lit (.func (.func 122) #[] #[]))) [(.t 9), (.t 10)])])
 (.cond (.t 11)
 (.reg [.op (some 12) (.mv (.t 3)),
  .op (some 13) (.mv (.t 4)),
  .app (some 15) 14 3 1 8 (.t 12) 1 [(.lit (.int .i64 (0)))] [(0, (.t 13))],
  .op (some 3) (.mv (.t 15))])
 .skip))))
 (.reg [.op (some 16) (.binI .add (.t 6) (.v (.lit (.int .i64 (1))))),
  .op (some 6) (.mv (.t 16))])))))))
 (.seq (.reg [.op (some 17) (.mv (.t 3)),
  .op (some 2) (.mv (.t 17))])
 .ret))))
def rs102 : List RR := [.tmp 2]
def cut102 : Nat → Nat := fun id => 0
theorem k102 : (Try.f102.body.bind fun c => comp Try.prog Try.f102.ntmps cut102 c) = some r102 := by kernel_rfl
theorem by102 {W0 : World} {σ : List Blk} {args : List AV} {K : Cont} (hn : args.length ≤ 18) (h : rW Try.prog W0 σ.length r102 (initFr args) σ (finP W0 rs102 σ.length K)) : ACall Try.prog W0 102 args σ K :=
  ACall.introR mixed Try.func102 (by kernel_rfl) k102 (by kernel_rfl) hn h
def r103 : RC := (.seq (.reg [.op (some 2) (.mv (.v (.lit (.slice none 0 0))))])
 (.seq (.seq (.reg [.op (some 7) (.mv (.t 0)),
  .op (some 8) (.lenL (.t 7)),
  .op (some 9) (.binI .eql (.t 8) (.v (.lit (.int .i64 (0)))))])
 (.cond (.t 9)
 (.seq (.reg [.op (some 10) (.bslice 3 1 0 [(.lit (.int .i64 (0)))] []),
  .op (some 11) (.bslice 34 1 1 [(.lit (.slice none 0 0))] [(0, (.t 10))]),
  .op (some 2) (.mv (.t 11))])
 .ret)
 .skip))
 (.seq (.reg [.op (some 12) (.bslice 34 1 0 [(.lit (.slice none 0 0))] []),
  .op (some 3) (.mv (.t 12))])
 (.seq (.seq (.reg [.op (some 4) (.mv (.v (.lit (.int .i64 (0)))))])
 (.block 0 (.loop (.seq (.seq (.reg [.op (some 13) (.mv (.t 4)),
  .op (some 14) (.mv (.t 0)),
  .op (some 15) (.lenL (.t 14)),
  .op (some 16) (.binI .lss (.t 13) (.t 15))])
 (.cond (.t 16)
 .skip
 (.exit 0)))
 (.seq (.block 1 (.seq (.any true (.n ⟨none, (some 19), (.mv (.t 0))⟩
 (.n ⟨none, (some 20), (.mv (.t 4))⟩
 (.n ⟨none, (some 21), (.slice 1 (.t 19) none (some (.t 20)))⟩
 (.h ⟨none, (some 23), (.mv (.t 0))⟩
 (.h ⟨none, (some 24), (.mv (.t 4))⟩
 (.h ⟨none, (some 25), (.binI .add (.t 24) (.v (.lit (.int .i64 (1)))))⟩
 (.h ⟨none, (some 26), (.slice 1 (.t 23) (some (.t 25)) none)⟩
 (.t ⟨none, (some 22), (.call (.v (.lit (.func (.func 123) #[] #[]))) [(.t 21)])⟩
 (.t ⟨none, (some 27), (.append 34 3 1 8 (.t 22) (.t 26))⟩
 (.t ⟨none, (some 28), (.call (.v (.lit (.func (.func 103) #[] #[]))) [(.t 27)])⟩
 (.n ⟨none, (some 5), (.mv (.t 28))⟩
 .fin))))))))))))
 (.seq (.reg [.op (some 6) (.mv (.v (.lit (.int .i64 (0)))))])
 (.block 2 (.loop (.seq (.seq (.reg [.op (some 29) (.mv (.t 6)),
  .op (some 30) (.mv (.t 5)),
  .op (some 31) (.lenL (.t 30)),
  .op (some 32) (.binI .lss (.t 29) (.t 31))])
 (.cond (.t 32)
 .skip
 (.exit 2)))
 (.seq (.block 3 (.any true (.h ⟨none, (some 35), (.mv (.t 3))⟩
 (.n ⟨none, (some 36), (.mv (.t 0))⟩
 (.n ⟨none, (some 37), (.mv (.t 4))⟩
 (.n ⟨none, (some 38), (.iaddrS 1 (.t 36) (.t 37))⟩
 (.n ⟨none, (some 39), (.load 1 false (.t 38))⟩
 (.h ⟨none, (some 41), (.mv (.t 5))⟩
 (.h ⟨none, (some 42), (.mv (.t 6))⟩
 (.h ⟨none, (some 43), (.iaddrS 1 (.t 41) (.t 42))⟩
 (.h ⟨none, (some 44), (.load 1 false (.t 43))⟩
 (.t ⟨none, (some 40), (.bslice 3 1 1 [(.lit (.int .i64 (0)))] [(0, (.t 39))])⟩
 (.t ⟨none, (some 45), (.append 34 3 1 8 (.t 40) (.t 44))⟩
 (.t ⟨none, (some 46), (.bslice 34 1 1 [(.lit (.slice none 0 0))] [(0, (.t 45))])⟩
 (.t ⟨none, (some 47), (.append 108 34 1 24 (.t 35) (.t 46))⟩
 (.n ⟨none, (some 3), (.mv (.t 47))⟩
 .fin))))))))))))))))
 (.reg [.op (some 33) (.mv (.t 6)),
  .op (some 34) (.binI .add (.t 33) (.v (.lit (.int .i64 (1))))),
  .op (some 6) (.mv (.t 34))]))))))))
 (.reg [.op (some 17) (.mv (.t 4)),
  .op (some 18) (.binI .add (.t 17) (.v (.lit (.int .i64 (1))))),
  .op (some 4) (.mv (.t 18))]))))))
 (.seq (.reg [.op (some 48) (.mv (.t 3)),
  .op (some 2) (.mv (.t 48))])
 .ret)))))
def rs103 : List RR := [.tmp 2]
def cut103 : Nat → Nat := fun id => if id = 7 then 1001553 else if id = 11 then 1014401 else 0
theorem k103 : (Try.f103.body.bind fun c => comp Try.prog Try.f103.ntmps cut103 c) = some r103 := by kernel_rfl
theorem by103 {W0 : World} {σ : List Blk} {args : List AV} {K : Cont} (hn : args.length ≤ 49) (h : rW Try.prog W0 σ.length r103 (initFr args) σ (finP W0 rs103 σ.length K)) : ACall Try.prog W0 103 args σ K :=
  ACall.introR mixed Try.func103 (by kernel_rfl) k103 (by kernel_rfl) hn h
def r104 : RC := (.seq (.seq (.any true (.n ⟨none, (some 7), (.mv (.t 0))⟩
 (.n ⟨none, (some 8), (.lenL (.t 7))⟩
 (.n ⟨none, (some 9), (.load 1 false (.t 1))⟩
 (.n ⟨none, (some 10), (.lenL (.t 9))⟩
 (.n ⟨none, (some 11), (.binI .eql (.t 8) (.t 10))⟩
 (.n ⟨none, (some 12), (.mv (.t 11))⟩
 (.n ⟨(some (12, true)), (some 13), (.load 1 false (.t 1))⟩
 (.n ⟨(some (12, true)), (some 14), (.mv (.t 0))⟩
 (.h ⟨(some (12, true)), (some 17), (.load 36 true (.t 2))⟩
 (.t ⟨(some (12, true)), (some 15), (.call (.v (.lit (.func (.func 72) #[] #[]))) [(.t 13), (.t 14)])⟩
 (.n ⟨(some (12, true)), (some 16), (.call (.v (.lit (.func (.func 71) #[] #[]))) [(.t 15)])⟩
 (.n ⟨(some (12, true)), (some 18), (.eqA false [.int, .int, .int, .int, .int, .int, .int, .int, .int, .int, .int, .int, .int, .int, .int, .int, .int, .int, .int, .int, .int, .int, .int, .int, .int, .int, .int, .int, .int, .int, .int, .int, .int, .int, .int, .int] (.t 16) (.t 17))⟩
 (.n ⟨none, (some 19), (.pick (.t 12) (.t 18) (.v (.lit (.bool false))))⟩
 .fin))))))))))))))
 (.cond (.t 19)
 (.reg [.op (some 20) (.load 1 false (.t 3)),
  .op (some 21) (.mv (.t 0)),
  .app (some 23) 22 34 1 24 (.t 20) 1 [(.lit (.slice none 0 0))] [(0, (.t 21))],
  .op none (.store 1 (.t 3) (.t 23))])
 .skip))
 (.seq (.reg [.op (some 24) (.load 1 false (.t 1)),
  .op (some 25) (.lenL (.t 24)),
  .op (some 26) (.mv (.v (.lit (.int .i64 (0)))))])
 (.block 0 (.loop (.seq (.reg [.op (some 27) (.binI .lss (.t 26) (.t 25))])
 (.seq (.cond (.t 27)
 .skip
 (.exit 0))
 (.seq (.block 1 (.seq (.reg [.op (some 28) (.mv (.t 26)),
  .op (some 6) (.mv (.t 28))])
 (.seq (.reg [.op (some 29) (.mv (.t 0)),
  .op (some 30) (.mv (.t 6)),
  .op (some 31) (.call (.v (.lit (.func (.func 101) #[] #[]))) [(.t 29), (.t 30)]),
  .op (some 32) (.un .not (.t 31))])
 (.cond (.t 32)
 (.any true (.h ⟨none, (some 33), (.load 1 false (.t 4))⟩
 (.h ⟨none, (some 34), (.mv (.t 0))⟩
 (.h ⟨none, (some 36), (.mv (.t 6))⟩
 (.both (.t ⟨none, (some 35), (.call (.v (.lit (.func (.func 105) #[] #[]))) [(.t 34)])⟩
 (.t ⟨none, (some 37), (.bslice 3 1 1 [(.lit (.int .i64 (0)))] [(0, (.t 36))])⟩
 (.t ⟨none, (some 38), (.append 34 3 1 8 (.t 35) (.t 37))⟩
 (.n ⟨none, (some 39), (.call (.t 33) [(.t 38)])⟩
 .fin))))
 (.t ⟨none, (some 37), (.bslice 3 1 1 [(.lit (.int .i64 (0)))] [(0, (.t 36))])⟩
 (.t ⟨none, (some 35), (.call (.v (.lit (.func (.func 105) #[] #[]))) [(.t 34)])⟩
 (.t ⟨none, (some 38), (.append 34 3 1 8 (.t 35) (.t 37))⟩
 (.n ⟨none, (some 39), (.call (.t 33) [(.t 38)])⟩
 .fin)))))))))
 .skip))))
 (.reg [.op (some 40) (.binI .add (.t 26) (.v (.lit (.int .i64 (1))))),
  .op (some 26) (.mv (.t 40))]))))))))
def rs104 : List RR := []
def cut104 : Nat → Nat := fun id => if id = 0 then 1000513 else if id = 6 then 1000105 else 0
theorem k104 : (Try.f104.body.bind fun c => comp Try.prog Try.f104.ntmps cut104 c) = some r104 := by kernel_rfl
theorem by104 {W0 : World} {σ : List Blk} {args : List AV} {K : Cont} (hn : args.length ≤ 41) (h : rW Try.prog W0 σ.length r104 (initFr args) σ (finP W0 rs104 σ.length K)) : ACall Try.prog W0 104 args σ K :=
  ACall.introR mixed Try.func104 (by kernel_rfl) k104 (by kernel_rfl) hn h
def r105 : RC := (.seq (.reg [.op (some 2) (.mv (.v (.lit (.slice none 0 0))))])
 (.seq (.seq (.reg [.op (some 3) (.mv (.t 0)),
  .op (some 4) (.nilS false (.t 3))])
 (.cond (.t 4)
 (.seq (.reg [.op (some 2) (.mv (.v (.lit (.slice none 0 0))))])
 .ret)
 .skip))
 (.seq (.reg [.op (some 5) (.bslice 3 1 0 [(.lit (.int .i64 (0)))] []),
  .op (some 6) (.mv (.t 0)),
  .op (some 7) (.append 34 3 1 8 (.t 5) (.t 6)),
  .op (some 2) (.mv (.t 7))])
 .ret)))
def rs105 : List RR := [.tmp 2]
def cut105 : Nat → Nat := fun id => 0
theorem k105 : (Try.f105.body.bind fun c => comp Try.prog Try.f105.ntmps cut105 c) = some r105 := by kernel_rfl
theorem by105 {W0 : World} {σ : List Blk} {args : List AV} {K : Cont} (hn : args.length ≤ 8) (h : rW Try.prog W0 σ.length r105 (initFr args) σ (finP W0 rs105 σ.length K)) : ACall Try.prog W0 105 args σ K :=
  ACall.introR mixed Try.func105 (by kernel_rfl) k105 (by kernel_rfl) hn h
def r106 : RC := (.seq (.reg [.op (some 4) (.mv (.v (.lit (.int .i64 (0)))))])
 (.seq (.reg [.op (some 7) (.mv (.t 0)),
  .op (some 8) (.call (.v (.lit (.func (.func 124) #[] #[]))) [(.t 7)]),
  .op (some 5) (.mv (.t 8))])
 (.seq (.reg [.op (some 9) (.mv (.t 1)),
  .op (some 10) (.call (.v (.lit (.func (.func 124) #[] #[]))) [(.t 9)]),
  .op (some 6) (.mv (.t 10))])
 (.seq (.seq (.reg [.op (some 11) (.mv (.t 5))])
 (.cond (.t 11)
 (.seq (.seq (.reg [.op (some 12) (.mv (.t 6))])
 (.cond (.t 12)
 (.seq (.reg [.op (some 4) (.mv (.v (.lit (.int .i64 (0)))))])
 .ret)
 .skip))
 (.seq (.reg [.op (some 4) (.mv (.v (.lit (.int .i64 (-1)))))])
 .ret))
 .skip))
 (.seq (.seq (.reg [.op (some 13) (.mv (.t 6))])
 (.cond (.t 13)
 (.seq (.reg [.op (some 4) (.mv (.v (.lit (.int .i64 (1)))))])
 .ret)
 .skip))
 (.seq (.seq (.reg [.op (some 14) (.mv (.t 0)),
  .op (some 15) (.mv (.t 1)),
  .op (some 16) (.binI .lss (.t 14) (.t 15))])
 (.cond (.t 16)
 (.seq (.reg [.op (some 4) (.mv (.v (.lit (.int .i64 (-1)))))])
 .ret)
 .skip))
 (.seq (.seq (.reg [.op (some 17) (.mv (.t 0)),
  .op (some 18) (.mv (.t 1)),
  .op (some 19) (.binI .gtr (.t 17) (.t 18))])
 (.cond (.t 19)
 (.seq (.reg [.op (some 4) (.mv (.v (.lit (.int .i64 (1)))))])
 .ret)
 .skip))
 (.seq (.reg [.op (some 4) (.mv (.v (.lit (.int .i64 (0)))))])
 .ret))))))))
def rs106 : List RR := [.tmp 4]
def cut106 : Nat → Nat := fun id => 0
theorem k106 : (Try.f106.body.bind fun c => comp Try.prog Try.f106.ntmps cut106 c) = some r106 := by kernel_rfl
theorem by106 {W0 : World} {σ : List Blk} {args : List AV} {K : Cont} (hn : args.length ≤ 20) (h : rW Try.prog W0 σ.length r106 (initFr args) σ (finP W0 rs106 σ.length K)) : ACall Try.prog W0 106 args σ K :=
  ACall.introR mixed Try.func106 (by kernel_rfl) k106 (by kernel_rfl) hn h
def r107 : RC := (.seq (.reg [.op (some 1) (.box 59 (.t 0)),
  .op (some 2) (.mv (.v (.lit (.bool false))))])
 (.seq (.seq (.reg [.op (some 3) (.mv (.v (.lit (.int .i64 (0)))))])
 (.block 0 (.loop (.seq (.seq (.reg [.op (some 4) (.mv (.t 3)),
  .op (some 5) (.binI .lss (.t 4) (.v (.lit (.int .i64 (6)))))])
 (.cond (.t 5)
 .skip
 (.exit 0)))
 (.seq (.block 1 (.seq (.reg [.op (some 8) (.mv (.t 3)),
  .op (some 9) (.faddr 0 (.t 1)),
  .op (some 10) (.iaddrA 6 1 (.t 9) (.t 8)),
  .op (some 11) (.load 1 false (.t 10)),
  .op (some 12) (.call (.v (.lit (.func (.func 95) #[] #[]))) [(.t 11), (.v (.lit (.int .i64 (0)))), (.v (.lit (.int .i64 (63))))]),
  .op (some 13) (.un .not (.t 12))])
 (.cond (.t 13)
 (.seq (.reg [.op (some 2) (.mv (.v (.lit (.bool false))))])
 .ret)
 .skip)))
 (.reg [.op (some 6) (.mv (.t 3)),
  .op (some 7) (.binI .add (.t 6) (.v (.lit (.int .i64 (1))))),
  .op (some 3) (.mv (.t 7))]))))))
 (.seq (.reg [.op (some 2) (.mv (.v (.lit (.bool true))))])
 .ret)))
def rs107 : List RR := [.tmp 2]
def cut107 : Nat → Nat := fun id => 0
theorem k107 : (Try.f107.body.bind fun c => comp Try.prog Try.f107.ntmps cut107 c) = some r107 := by kernel_rfl
theorem by107 {W0 : World} {σ : List Blk} {args : List AV} {K : Cont} (hn : args.length ≤ 14) (h : rW Try.prog W0 σ.length r107 (initFr args) σ (finP W0 rs107 σ.length K)) : ACall Try.prog W0 107 args σ K :=
  ACall.introR mixed Try.func107 (by kernel_rfl) k107 (by kernel_rfl) hn h
def r108 : RC := (.seq (.reg [.op (some 2) (.box 61 (.t 0)),
  .op (some 3) (.box 65 (.t 1)),
  .op (some 4) (.alloc 61 (List.replicate 14 (.lit (.int .i64 (0))))),
  .op (some 5) (.mv (.v (.lit (.bool false))))])
 (.seq (.seq (.reg [.op (some 10) (.faddr 0 (.t 3)),
  .op (some 11) (.load 1 false (.t 10))])
 (.block 0 (.seq (.seq (.reg [.op (some 13) (.binI .eql (.t 11) (.v (.lit (.int .i64 (1))))),
  .op (some 12) (.mv (.t 13))])
 (.cond (.t 12)
 .skip
 (.seq (.reg [.op (some 14) (.binI .eql (.t 11) (.v (.lit (.int .i64 (2))))),
  .op (some 12) (.mv (.t 14))])
 (.cond (.t 12)
 .skip
 (.reg [.op (some 15) (.binI .eql (.t 11) (.v (.lit (.int .i64 (3))))),
  .op (some 12) (.mv (.t 15))])))))
 (.cond (.t 12)
 (.seq (.reg [.op (some 16) (.load 14 true (.t 2)),
  .op (some 17) (.load 3 true (.t 3)),
  .op (some 18) (.call (.v (.lit (.func (.func 125) #[] #[]))) [(.t 16), (.t 17)]),
  .op (some 19) (.ext (.t 18) 0),
  .op (some 20) (.ext (.t 18) 1),
  .op none (.store 14 (.t 4) (.t 19)),
  .op (some 5) (.mv (.t 20))])
 .ret)
 (.seq (.reg [.op (some 22) (.binI .eql (.t 11) (.v (.lit (.int .i64 (4))))),
  .op (some 21) (.mv (.t 22))])
 (.cond (.t 21)
 (.seq (.seq (.reg [.op (some 23) (.faddr 1 (.t 3)),
  .op (some 24) (.load 1 false (.t 23)),
  .op (some 25) (.faddr 2 (.t 3)),
  .op (some 26) (.load 1 false (.t 25)),
  .op (some 27) (.build [(.lit (.int .i64 (0))), (.lit (.int .i64 (0)))] [((0, 1), (.t 24)), ((1, 1), (.t 26))]),
  .op (some 28) (.call (.v (.lit (.func (.func 118) #[] #[]))) [(.t 27)]),
  .op (some 29) (.un .not (.t 28))])
 (.cond (.t 29)
 (.seq (.reg [.op (some 30) (.load 14 true (.t 2)),
  .op none (.store 14 (.t 4) (.t 30)),
  .op (some 5) (.mv (.v (.lit (.bool false))))])
 .ret)
 .skip))
 (.seq (.reg [.op (some 31) (.faddr 0 (.t 2)),
  .op (some 32) (.load 6 true (.t 31)),
  .op (some 33) (.faddr 1 (.t 3)),
  .op (some 34) (.load 1 false (.t 33)),
  .op (some 35) (.faddr 2 (.t 3)),
  .op (some 36) (.load 1 false (.t 35)),
  .op (some 37) (.call (.v (.lit (.func (.func 119) #[] #[]))) [(.t 32), (.t 34), (.t 36)]),
  .op (some 38) (.faddr 0 (.t 2)),
  .op none (.store 6 (.t 38) (.t 37))])
 (.seq (.reg [.op (some 39) (.load 14 true (.t 2)),
  .op none (.store 14 (.t 4) (.t 39)),
  .op (some 5) (.mv (.v (.lit (.bool true))))])
 .ret)))
 (.seq (.reg [.op (some 41) (.binI .eql (.t 11) (.v (.lit (.int .i64 (5))))),
  .op (some 40) (.mv (.t 41))])
 (.cond (.t 40)
 (.seq (.reg [.op (some 43) (.faddr 6 (.t 2)),
  .op (some 44) (.load 6 true (.t 43)),
  .op (some 45) (.faddr 1 (.t 3)),
  .op (some 46) (.load 1 false (.t 45)),
  .op (some 47) (.call (.v (.lit (.func (.func 126) #[] #[]))) [(.t 44), (.t 46)]),
  .op (some 42) (.mv (.t 47)),
  .op (some 48) (.ext (.t 42) 0),
  .op (some 49) (.ext (.t 42) 1),
  .op (some 6) (.alloc 59 (List.replicate 6 (.lit (.int .i64 (0))))),
  .op none (.store 6 (.t 6) (.t 48)),
  .op (some 7) (.mv (.t 49))])
 (.seq (.reg [.op (some 50) (.load 6 true (.t 6)),
  .op (some 51) (.faddr 6 (.t 2)),
  .op none (.store 6 (.t 51) (.t 50))])
 (.seq (.any true (.n ⟨none, (some 52), (.load 14 true (.t 2))⟩
 (.n ⟨none, (some 53), (.mv (.t 7))⟩
 (.n ⟨none, (some 54), (.mv (.t 53))⟩
 (.h ⟨(some (54, true)), (some 55), (.faddr 2 (.t 3))⟩
 (.h ⟨(some (54, true)), (some 56), (.load 1 false (.t 55))⟩
 (.h ⟨(some (54, true)), (some 57), (.binI .eql (.t 56) (.v (.lit (.int .i64 (0)))))⟩
 (.h ⟨none, (some 58), (.pick (.t 54) (.t 57) (.v (.lit (.bool false))))⟩
 (.t ⟨none, none, (.store 14 (.t 4) (.t 52))⟩
 (.n ⟨none, (some 5), (.mv (.t 58))⟩
 .fin))))))))))
 .ret)))
 (.seq (.reg [.op (some 60) (.binI .eql (.t 11) (.v (.lit (.int .i64 (6))))),
  .op (some 59) (.mv (.t 60))])
 (.cond (.t 59)
 (.seq (.reg [.op (some 62) (.faddr 6 (.t 2)),
  .op (some 63) (.load 6 true (.t 62)),
  .op (some 64) (.faddr 1 (.t 3)),
  .op (some 65) (.load 1 false (.t 64)),
  .op (some 66) (.faddr 2 (.t 3)),
  .op (some 67) (.load 1 false (.t 66)),
  .op (some 68) (.build [(.lit (.int .i64 (0))), (.lit (.int .i64 (0)))] [((0, 1), (.t 65)), ((1, 1), (.t 67))]),
  .op (some 69) (.call (.v (.lit (.func (.func 127) #[] #[]))) [(.t 63), (.t 68)]),
  .op (some 61) (.mv (.t 69)),
  .op (some 70) (.ext (.t 61) 0),
  .op (some 71) (.ext (.t 61) 1),
  .op (some 8) (.alloc 59 (List.replicate 6 (.lit (.int .i64 (0))))),
  .op none (.store 6 (.t 8) (.t 70)),
  .op (some 9) (.mv (.t 71))])
 (.seq (.reg [.op (some 72) (.load 6 true (.t 8)),
  .op (some 73) (.faddr 6 (.t 2)),
  .op none (.store 6 (.t 73) (.t 72))])
 (.seq (.reg [.op (some 74) (.load 14 true (.t 2)),
  .op (some 75) (.mv (.t 9)),
  .op none (.store 14 (.t 4) (.t 74)),
  .op (some 5) (.mv (.t 75))])
 .ret)))
 (.seq (.reg [.op (some 77) (.binI .eql (.t 11) (.v (.lit (.int .i64 (7))))),
  .op (some 76) (.mv (.t 77))])
 (.cond (.t 76)
 (.seq (.any true (.n ⟨none, (some 78), (.faddr 6 (.t 2))⟩
 (.n ⟨none, (some 79), (.load 6 true (.t 78))⟩
 (.n ⟨none, (some 80), (.faddr 0 (.t 2))⟩
 (.n ⟨none, (some 81), (.load 6 true (.t 80))⟩
 (.n ⟨none, (some 82), (.faddr 12 (.t 2))⟩
 (.n ⟨none, (some 83), (.load 1 false (.t 82))⟩
 (.n ⟨none, (some 84), (.faddr 13 (.t 2))⟩
 (.n ⟨none, (some 85), (.load 1 false (.t 84))⟩
 (.n ⟨none, (some 86), (.build (List.replicate 14 (.lit (.int .i64 (0)))) [((0, 6), (.t 79)), ((6, 6), (.t 81)), ((12, 1), (.t 83)), ((13, 1), (.t 85))])⟩
 (.n ⟨none, (some 87), (.faddr 1 (.t 3))⟩
 (.n ⟨none, (some 88), (.load 1 false (.t 87))⟩
 (.n ⟨none, (some 89), (.binI .eql (.t 88) (.v (.lit (.int .i64 (0)))))⟩
 (.n ⟨none, (some 90), (.mv (.t 89))⟩
 (.h ⟨(some (90, true)), (some 91), (.faddr 2 (.t 3))⟩
 (.h ⟨(some (90, true)), (some 92), (.load 1 false (.t 91))⟩
 (.h ⟨(some (90, true)), (some 93), (.binI .eql (.t 92) (.v (.lit (.int .i64 (0)))))⟩
 (.h ⟨none, (some 94), (.pick (.t 90) (.t 93) (.v (.lit (.bool false))))⟩
 (.t ⟨none, none, (.store 14 (.t 4) (.t 86))⟩
 (.n ⟨none, (some 5), (.mv (.t 94))⟩
 .fin))))))))))))))))))))
 .ret)
 .skip))))))))))))
 (.seq (.reg [.op (some 95) (.load 14 true (.t 2)),
  .op none (.store 14 (.t 4) (.t 95)),
  .op (some 5) (.mv (.v (.lit (.bool false))))])
 .ret)))
def rs108 : List RR := [.cell 4 14 true, .tmp 5]
def cut108 : Nat → Nat := fun id => if id = 14 then 1000257 else if id = 20 then 1262145 else 0
theorem k108 : (Try.f108.body.bind fun c => comp Try.prog Try.f108.ntmps cut108 c) = some r108 := by kernel_rfl
theorem by108 {W0 : World} {σ : List Blk} {args : List AV} {K : Cont} (hn : args.length ≤ 96) (h : rW Try.prog W0 σ.length r108 (initFr args) σ (finP W0 rs108 σ.length K)) : ACall Try.prog W0 108 args σ K :=
  ACall.introR mixed Try.func108 (by kernel_rfl) k108 (by kernel_rfl) hn h
def r109 : RC := (.seq (.reg [.op (some 1) (.box 59 (.t 0)),
  .op (some 2) (.mv (.v (.lit (.bool false))))])
 (.seq (.reg [.op (some 6) (.load 6 true (.t 1)),
  .op (some 7) (.call (.v (.lit (.func (.func 89) #[] #[]))) [(.t 6)]),
  .op (some 5) (.mv (.t 7)),
  .op (some 8) (.ext (.t 5) 0),
  .op (some 9) (.ext (.t 5) 1),
  .op (some 3) (.mv (.t 8)),
  .op (some 4) (.mv (.t 9))])
 (.seq (.reg [.op (some 10) (.mv (.t 4)),
  .op (some 2) (.mv (.t 10))])
 .ret)))
def rs109 : List RR := [.tmp 2]
def cut109 : Nat → Nat := fun id => 0
theorem k109 : (Try.f109.body.bind fun c => comp Try.prog Try.f109.ntmps cut109 c) = some r109 := by kernel_rfl
theorem by109 {W0 : World} {σ : List Blk} {args : List AV} {K : Cont} (hn : args.length ≤ 11) (h : rW Try.prog W0 σ.length r109 (initFr args) σ (finP W0 rs109 σ.length K)) : ACall Try.prog W0 109 args σ K :=
  ACall.introR mixed Try.func109 (by kernel_rfl) k109 (by kernel_rfl) hn h
def r110 : RC := (.seq (.reg [.op (some 3) (.box 59 (.t 0)),
  .op (some 4) (.box 59 (.t 1)),
  .op (some 5) (.box 81 (.t 2)),
  .op (some 6) (.alloc 59 (List.replicate 6 (.lit (.int .i64 (0))))),
  .op (some 7) (.mv (.v (.lit (.bool false))))])
 (.seq (.reg [.op (some 8) (.load 6 true (.t 3)),
  .op (some 9) (.load 6 true (.t 4)),
  .op (some 10) (.load 2 true (.t 5)),
  .op (some 11) (.call (.v (.lit (.func (.func 128) #[] #[]))) [(.t 8), (.t 9), (.t 10), (.v (.lit (.func (.func 129) #[] #[])))]),
  .op (some 12) (.ext (.t 11) 0),
  .op (some 13) (.ext (.t 11) 1),
  .op none (.store 6 (.t 6) (.t 12)),
  .op (some 7) (.mv (.t 13))])
 .ret))
def rs110 : List RR := [.cell 6 6 true, .tmp 7]
def cut110 : Nat → Nat := fun id => 0
theorem k110 : (Try.f110.body.bind fun c => comp Try.prog Try.f110.ntmps cut110 c) = some r110 := by kernel_rfl
theorem by110 {W0 : World} {σ : List Blk} {args : List AV} {K : Cont} (hn : args.length ≤ 14) (h : rW Try.prog W0 σ.length r110 (initFr args) σ (finP W0 rs110 σ.length K)) : ACall Try.prog W0 110 args σ K :=
  ACall.introR mixed Try.func110 (by kernel_rfl) k110 (by kernel_rfl) hn h
def r111 : RC := (.seq (.reg [.op (some 3) (.box 59 (.t 0)),
  .op (some 4) (.box 59 (.t 1)),
  .op (some 5) (.box 81 (.t 2)),
  .op (some 6) (.alloc 59 (List.replicate 6 (.lit (.int .i64 (0))))),
  .op (some 7) (.mv (.v (.lit (.bool false))))])
 (.seq (.reg [.op (some 8) (.load 6 true (.t 3)),
  .op (some 9) (.load 6 true (.t 4)),
  .op (some 10) (.load 2 true (.t 5)),
  .op (some 11) (.call (.v (.lit (.func (.func 128) #[] #[]))) [(.t 8), (.t 9), (.t 10), (.v (.lit (.func (.func 130) #[] #[])))]),
  .op (some 12) (.ext (.t 11) 0),
  .op (some 13) (.ext (.t 11) 1),
  .op none (.store 6 (.t 6) (.t 12)),
  .op (some 7) (.mv (.t 13))])
 .ret))
def rs111 : List RR := [.cell 6 6 true, .tmp 7]
def cut111 : Nat → Nat := fun id => 0
theorem k111 : (Try.f111.body.bind fun c => comp Try.prog Try.f111.ntmps cut111 c) = some r111 := by kernel_rfl
theorem by111 {W0 : World} {σ : List Blk} {args : List AV} {K : Cont} (hn : args.length ≤ 14) (h : rW Try.prog W0 σ.length r111 (initFr args) σ (finP W0 rs111 σ.length K)) : ACall Try.prog W0 111 args σ K :=
  ACall.introR mixed Try.func111 (by kernel_rfl) k111 (by kernel_rfl) hn h
def r112 : RC := (.seq (.reg [.op (some 3) (.box 59 (.t 0)),
  .op (some 4) (.box 59 (.t 1)),
  .op (some 5) (.box 81 (.t 2)),
  .op (some 6) (.alloc 59 (List.replicate 6 (.lit (.int .i64 (0))))),
  .op (some 7) (.mv (.v (.lit (.bool false))))])
 (.seq (.reg [.op (some 8) (.load 6 true (.t 3)),
  .op (some 9) (.load 6 true (.t 4)),
  .op (some 10) (.load 2 true (.t 5)),
  .op (some 11) (.call (.v (.lit (.func (.func 128) #[] #[]))) [(.t 8), (.t 9), (.t 10), (.v (.lit (.func (.func 131) #[] #[])))]),
  .op (some 12) (.ext (.t 11) 0),
  .op (some 13) (.ext (.t 11) 1),
  .op none (.store 6 (.t 6) (.t 12)),
  .op (some 7) (.mv (.t 13))])
 .ret))
def rs112 : List RR := [.cell 6 6 true, .tmp 7]
def cut112 : Nat → Nat := fun id => 0
theorem k112 : (Try.f112.body.bind fun c => comp Try.prog Try.f112.ntmps cut112 c) = some r112 := by kernel_rfl
theorem by112 {W0 : World} {σ : List Blk} {args : List AV} {K : Cont} (hn : args.length ≤ 14) (h : rW Try.prog W0 σ.length r112 (initFr args) σ (finP W0 rs112 σ.length K)) : ACall Try.prog W0 112 args σ K :=
  ACall.introR mixed Try.func112 (by kernel_rfl) k112 (by kernel_rfl) hn h
def r113 : RC := (.seq (.reg [.op (some 3) (.box 59 (.t 0)),
  .op (some 6) (.alloc 59 (List.replicate 6 (.lit (.int .i64 (0))))),
  .op (some 7) (.mv (.v (.lit (.bool false))))])
 (.seq (.reg [.op (some 11) (.load 6 true (.t 3)),
  .op (some 12) (.call (.v (.lit (.func (.func 89) #[] #[]))) [(.t 11)]),
  .op (some 10) (.mv (.t 12)),
  .op (some 13) (.ext (.t 10) 0),
  .op (some 14) (.ext (.t 10) 1),
  .op (some 8) (.mv (.t 13)),
  .op (some 9) (.mv (.t 14))])
 (.seq (.seq (.reg [.op (some 15) (.mv (.t 9)),
  .op (some 16) (.un .not (.t 15))])
 (.cond (.t 16)
 (.seq (.reg [.op (some 17) (.build (List.replicate 6 (.lit (.int .i64 (0)))) []),
  .op none (.store 6 (.t 6) (.t 17)),
  .op (some 7) (.mv (.v (.lit (.bool false))))])
 .ret)
 .skip))
 (.seq (.reg [.op (some 18) (.mv (.t 8)),
  .op (some 19) (.mv (.t 1)),
  .op (some 20) (.mv (.t 2)),
  .op (some 21) (.call (.v (.lit (.func (.func 120) #[] #[]))) [(.t 18), (.t 19), (.t 20)]),
  .op (some 22) (.call (.v (.lit (.func (.func 132) #[] #[]))) [(.t 21)]),
  .op none (.store 6 (.t 6) (.t 22)),
  .op (some 7) (.mv (.v (.lit (.bool true))))])
 .ret))))
def rs113 : List RR := [.cell 6 6 true, .tmp 7]
def cut113 : Nat → Nat := fun id => 0
theorem k113 : (Try.f113.body.bind fun c => comp Try.prog Try.f113.ntmps cut113 c) = some r113 := by kernel_rfl
theorem by113 {W0 : World} {σ : List Blk} {args : List AV} {K : Cont} (hn : args.length ≤ 23) (h : rW Try.prog W0 σ.length r113 (initFr args) σ (finP W0 rs113 σ.length K)) : ACall Try.prog W0 113 args σ K :=
  ACall.introR mixed Try.func113 (by kernel_rfl) k113 (by kernel_rfl) hn h
def r114 : RC := (.seq (.reg [.op (some 1) (.box 81 (.t 0)),
  .op (some 2) (.mv (.v (.lit (.bool false))))])
 (.seq (.reg [.op (some 3) (.iaddrA 2 1 (.t 1) (.v (.lit (.int .i64 (0))))),
  .op (some 4) (.load 1 false (.t 3)),
  .op (some 5) (.binI .geq (.t 4) (.v (.lit (.int .i64 (0))))),
  .op (some 6) (.mv (.t 5)),
  .grp 6 true [((some 7), (.iaddrA 2 1 (.t 1) (.v (.lit (.int .i64 (0)))))), ((some 8), (.load 1 false (.t 7))), ((some 9), (.binI .lss (.t 8) (.v (.lit (.int .i64 (6))))))],
  .op (some 10) (.pick (.t 6) (.t 9) (.v (.lit (.bool false)))),
  .op (some 11) (.mv (.t 10)),
  .grp 11 true [((some 12), (.iaddrA 2 1 (.t 1) (.v (.lit (.int .i64 (1)))))), ((some 13), (.load 1 false (.t 12))), ((some 14), (.binI .geq (.t 13) (.v (.lit (.int .i64 (0))))))],
  .op (some 15) (.pick (.t 11) (.t 14) (.v (.lit (.bool false)))),
  .op (some 16) (.mv (.t 15)),
  .grp 16 true [((some 17), (.iaddrA 2 1 (.t 1) (.v (.lit (.int .i64 (1)))))), ((some 18), (.load 1 false (.t 17))), ((some 19), (.binI .lss (.t 18) (.v (.lit (.int .i64 (6))))))],
  .op (some 20) (.pick (.t 16) (.t 19) (.v (.lit (.bool false)))),
  .op (some 2) (.mv (.t 20))])
 .ret))
def rs114 : List RR := [.tmp 2]
def cut114 : Nat → Nat := fun id => 0
theorem k114 : (Try.f114.body.bind fun c => comp Try.prog Try.f114.ntmps cut114 c) = some r114 := by kernel_rfl
theorem by114 {W0 : World} {σ : List Blk} {args : List AV} {K : Cont} (hn : args.length ≤ 21) (h : rW Try.prog W0 σ.length r114 (initFr args) σ (finP W0 rs114 σ.length K)) : ACall Try.prog W0 114 args σ K :=
  ACall.introR mixed Try.func114 (by kernel_rfl) k114 (by kernel_rfl) hn h
def r115 : RC := (.seq (.reg [.op (some 2) (.box 59 (.t 0)),
  .op (some 4) (.alloc 59 (List.replicate 6 (.lit (.int .i64 (0))))),
  .op (some 5) (.mv (.v (.lit (.bool false))))])
 (.seq (.reg [.op (some 9) (.load 6 true (.t 2)),
  .op (some 10) (.call (.v (.lit (.func (.func 89) #[] #[]))) [(.t 9)]),
  .op (some 8) (.mv (.t 10)),
  .op (some 11) (.ext (.t 8) 0),
  .op (some 12) (.ext (.t 8) 1),
  .op (some 6) (.mv (.t 11)),
  .op (some 7) (.mv (.t 12))])
 (.seq (.seq (.reg [.op (some 13) (.mv (.t 7)),
  .op (some 14) (.un .not (.t 13)),
  .op (some 15) (.mv (.t 14)),
  .grp 15 false [((some 16), (.mv (.t 1))), ((some 17), (.call (.v (.lit (.func (.func 133) #[] #[]))) [(.t 16)])), ((some 18), (.un .not (.t 17)))],
  .op (some 19) (.pick (.t 15) (.v (.lit (.bool true))) (.t 18))])
 (.cond (.t 19)
 (.seq (.reg [.op (some 20) (.build (List.replicate 6 (.lit (.int .i64 (0)))) []),
  .op none (.store 6 (.t 4) (.t 20)),
  .op (some 5) (.mv (.v (.lit (.bool false))))])
 .ret)
 .skip))
 (.seq (.reg [.op (some 21) (.mv (.t 6)),
  .op (some 22) (.mv (.t 1)),
  .op (some 23) (.call (.v (.lit (.func (.func 134) #[] #[]))) [(.t 21), (.t 22)]),
  .op (some 24) (.call (.v (.lit (.func (.func 132) #[] #[]))) [(.t 23)]),
  .op none (.store 6 (.t 4) (.t 24)),
  .op (some 5) (.mv (.v (.lit (.bool true))))])
 .ret))))
def rs115 : List RR := [.cell 4 6 true, .tmp 5]
def cut115 : Nat → Nat := fun id => 0
theorem k115 : (Try.f115.body.bind fun c => comp Try.prog Try.f115.ntmps cut115 c) = some r115 := by kernel_rfl
theorem by115 {W0 : World} {σ : List Blk} {args : List AV} {K : Cont} (hn : args.length ≤ 25) (h : rW Try.prog W0 σ.length r115 (initFr args) σ (finP W0 rs115 σ.length K)) : ACall Try.prog W0 115 args σ K :=
  ACall.introR mixed Try.func115 (by kernel_rfl) k115 (by kernel_rfl) hn h
def r116 : RC := (.seq (.reg [.op (some 2) (.box 59 (.t 0)),
  .op (some 3) (.box 81 (.t 1)),
  .op (some 4) (.alloc 59 (List.replicate 6 (.lit (.int .i64 (0))))),
  .op (some 5) (.mv (.v (.lit (.bool false))))])
 (.seq (.reg [.op (some 9) (.load 6 true (.t 2)),
  .op (some 10) (.call (.v (.lit (.func (.func 89) #[] #[]))) [(.t 9)]),
  .op (some 8) (.mv (.t 10)),
  .op (some 11) (.ext (.t 8) 0),
  .op (some 12) (.ext (.t 8) 1),
  .op (some 6) (.mv (.t 11)),
  .op (some 7) (.mv (.t 12))])
 (.seq (.seq (.reg [.op (some 13) (.mv (.t 7)),
  .op (some 14) (.un .not (.t 13)),
  .op (some 15) (.mv (.t 14)),
  .grp 15 false [((some 16), (.load 2 true (.t 3))), ((some 17), (.call (.v (.lit (.func (.func 114) #[] #[]))) [(.t 16)])), ((some 18), (.un .not (.t 17)))],
  .op (some 19) (.pick (.t 15) (.v (.lit (.bool true))) (.t 18))])
 (.cond (.t 19)
 (.seq (.reg [.op (some 20) (.build (List.replicate 6 (.lit (.int .i64 (0)))) []),
  .op none (.store 6 (.t 4) (.t 20)),
  .op (some 5) (.mv (.v (.lit (.bool false))))])
 .ret)
 .skip))
 (.seq (.reg [.op (some 21) (.mv (.t 6)),
  .op (some 22) (.load 2 true (.t 3)),
  .op (some 23) (.call (.v (.lit (.func (.func 91) #[] #[]))) [(.t 22)]),
  .op (some 24) (.binI .shl (.v (.lit (.int .u64 (1)))) (.t 23)),
  .op (some 25) (.binI .xor (.t 21) (.t 24)),
  .op (some 26) (.call (.v (.lit (.func (.func 132) #[] #[]))) [(.t 25)]),
  .op none (.store 6 (.t 4) (.t 26)),
  .op (some 5) (.mv (.v (.lit (.bool true))))])
 .ret))))
def rs116 : List RR := [.cell 4 6 true, .tmp 5]
def cut116 : Nat → Nat := fun id => 0
theorem k116 : (Try.f116.body.bind fun c => comp Try.prog Try.f116.ntmps cut116 c) = some r116 := by kernel_rfl
theorem by116 {W0 : World} {σ : List Blk} {args : List AV} {K : Cont} (hn : args.length ≤ 27) (h : rW Try.prog W0 σ.length r116 (initFr args) σ (finP W0 rs116 σ.length K)) : ACall Try.prog W0 116 args σ K :=
  ACall.introR mixed Try.func116 (by kernel_rfl) k116 (by kernel_rfl) hn h
def r117 : RC := (.seq (.reg [.op (some 2) (.box 39 (.t 0)),
  .op (some 3) (.box 39 (.t 1)),
  .op (some 4) (.mv (.v (.lit (.bool false))))])
 (.seq (.seq (.reg [.op (some 5) (.mv (.v (.lit (.int .i64 (0)))))])
 (.block 0 (.loop (.seq (.seq (.reg [.op (some 6) (.mv (.t 5)),
  .op (some 7) (.binI .lss (.t 6) (.v (.lit (.int .i64 (6)))))])
 (.cond (.t 7)
 .skip
 (.exit 0)))
 (.seq (.block 1 (.seq (.draw [((some 10), (.mv (.t 5))), ((some 11), (.iaddrA 6 1 (.t 2) (.t 10))), ((some 12), (.load 1 false (.t 11))), ((some 13), (.mv (.t 5))), ((some 14), (.iaddrA 6 1 (.t 3) (.t 13))), ((some 15), (.load 1 false (.t 14))), ((some 16), (.binI .neq (.t 12) (.t 15)))] [])
 (.cond (.t 16)
 (.seq (.reg [.op (some 4) (.mv (.v (.lit (.bool false))))])
 .ret)
 .skip)))
 (.reg [.op (some 8) (.mv (.t 5)),
  .op (some 9) (.binI .add (.t 8) (.v (.lit (.int .i64 (1))))),
  .op (some 5) (.mv (.t 9))]))))))
 (.seq (.reg [.op (some 4) (.mv (.v (.lit (.bool true))))])
 .ret)))
def rs117 : List RR := [.tmp 4]
def cut117 : Nat → Nat := fun id => if id = 4 then 15 else 0
theorem k117 : (Try.f117.body.bind fun c => comp Try.prog Try.f117.ntmps cut117 c) = some r117 := by kernel_rfl
theorem by117 {W0 : World} {σ : List Blk} {args : List AV} {K : Cont} (hn : args.length ≤ 17) (h : rW Try.prog W0 σ.length r117 (initFr args) σ (finP W0 rs117 σ.length K)) : ACall Try.prog W0 117 args σ K :=
  ACall.introR mixed Try.func117 (by kernel_rfl) k117 (by kernel_rfl) hn h
def r118 : RC := (.seq (.reg [.op (some 1) (.box 81 (.t 0)),
  .op (some 2) (.mv (.v (.lit (.bool false))))])
 (.seq (.reg [.op (some 3) (.iaddrA 2 1 (.t 1) (.v (.lit (.int .i64 (0))))),
  .op (some 4) (.load 1 false (.t 3)),
  .op (some 5) (.call (.v (.lit (.func (.func 95) #[] #[]))) [(.t 4), (.v (.lit (.int .i64 (0)))), (.v (.lit (.int .i64 (5))))]),
  .op (some 6) (.mv (.t 5)),
  .grp 6 true [((some 7), (.iaddrA 2 1 (.t 1) (.v (.lit (.int .i64 (1)))))), ((some 8), (.load 1 false (.t 7))), ((some 9), (.call (.v (.lit (.func (.func 95) #[] #[]))) [(.t 8), (.v (.lit (.int .i64 (0)))), (.v (.lit (.int .i64 (5))))]))],
  .op (some 10) (.pick (.t 6) (.t 9) (.v (.lit (.bool false)))),
  .op (some 2) (.mv (.t 10))])
 .ret))
def rs118 : List RR := [.tmp 2]
def cut118 : Nat → Nat := fun id => 0
theorem k118 : (Try.f118.body.bind fun c => comp Try.prog Try.f118.ntmps cut118 c) = some r118 := by kernel_rfl
theorem by118 {W0 : World} {σ : List Blk} {args : List AV} {K : Cont} (hn : args.length ≤ 11) (h : rW Try.prog W0 σ.length r118 (initFr args) σ (finP W0 rs118 σ.length K)) : ACall Try.prog W0 118 args σ K :=
  ACall.introR mixed Try.func118 (by kernel_rfl) k118 (by kernel_rfl) hn h
def r119 : RC := (.seq (.reg [.op (some 3) (.box 59 (.t 0)),
  .op (some 6) (.alloc 59 (List.replicate 6 (.lit (.int .i64 (0)))))])
 (.seq (.reg [.op (some 12) (.build (List.replicate 6 (.lit (.int .i64 (0)))) []),
  .op (some 13) (.mv (.t 1)),
  .op (some 14) (.call (.v (.lit (.func (.func 135) #[] #[]))) [(.t 13)]),
  .op (some 15) (.mv (.t 2)),
  .op (some 16) (.call (.v (.lit (.func (.func 135) #[] #[]))) [(.t 15)]),
  .op (some 7) (.alloc 59 (List.replicate 6 (.lit (.int .i64 (0))))),
  .op none (.store 6 (.t 7) (.t 12)),
  .op (some 8) (.mv (.t 14)),
  .op (some 9) (.mv (.t 16))])
 (.seq (.seq (.reg [.op (some 10) (.mv (.v (.lit (.int .i64 (0)))))])
 (.block 0 (.loop (.seq (.seq (.reg [.op (some 17) (.mv (.t 10)),
  .op (some 18) (.binI .lss (.t 17) (.v (.lit (.int .i64 (6)))))])
 (.cond (.t 18)
 .skip
 (.exit 0)))
 (.seq (.block 1 (.seq (.reg [.op (some 21) (.mv (.t 10)),
  .op (some 22) (.faddr 0 (.t 3)),
  .op (some 23) (.iaddrA 6 1 (.t 22) (.t 21)),
  .op (some 24) (.load 1 false (.t 23)),
  .op (some 11) (.mv (.t 24))])
 (.draw [((some 25), (.mv (.t 10))), ((some 26), (.mv (.t 9))), ((some 27), (.binI .add (.t 25) (.t 26))), ((some 28), (.binI .rem (.t 27) (.v (.lit (.int .i64 (6)))))), ((some 29), (.mv (.t 11))), ((some 30), (.mv (.t 8))), ((some 31), (.binI .shl (.t 29) (.t 30))), ((some 32), (.binI .and (.t 31) (.v (.lit (.int .i64 (63)))))), ((some 33), (.mv (.t 11))), ((some 34), (.mv (.t 8))), ((some 35), (.binI .sub (.v (.lit (.int .i64 (6)))) (.t 34))), ((some 36), (.binI .shr (.t 33) (.t 35))), ((some 37), (.binI .or (.t 32) (.t 36)))] [((some 38), (.faddr 0 (.t 7))), ((some 39), (.iaddrA 6 1 (.t 38) (.t 28))), (none, (.store 1 (.t 39) (.t 37)))])))
 (.reg [.op (some 19) (.mv (.t 10)),
  .op (some 20) (.binI .add (.t 19) (.v (.lit (.int .i64 (1))))),
  .op (some 10) (.mv (.t 20))]))))))
 (.seq (.reg [.op (some 40) (.load 6 true (.t 7)),
  .op none (.store 6 (.t 6) (.t 40))])
 .ret))))
def rs119 : List RR := [.cell 6 6 true]
def cut119 : Nat → Nat := fun id => if id = 6 then 27 else 0
theorem k119 : (Try.f119.body.bind fun c => comp Try.prog Try.f119.ntmps cut119 c) = some r119 := by kernel_rfl
theorem by119 {W0 : World} {σ : List Blk} {args : List AV} {K : Cont} (hn : args.length ≤ 41) (h : rW Try.prog W0 σ.length r119 (initFr args) σ (finP W0 rs119 σ.length K)) : ACall Try.prog W0 119 args σ K :=
  ACall.introR mixed Try.func119 (by kernel_rfl) k119 (by kernel_rfl) hn h
def r120 : RC := (.seq (.reg [.op (some 4) (.box 3 (.t 1)),
  .op (some 5) (.box 3 (.t 2)),
  .op (some 6) (.mv (.v (.lit (.int .u64 (0)))))])
 (.seq (.quiet [.op (some 7) (.load 1 false (.t 4)),
  .op (some 8) (.call (.v (.lit (.func (.func 136) #[] #[]))) [(.t 7)]),
  .op (some 9) (.load 1 false (.t 5)),
  .op (some 10) (.call (.v (.lit (.func (.func 136) #[] #[]))) [(.t 9)])] [.op none (.store 1 (.t 4) (.t 8)),
  .op none (.store 1 (.t 5) (.t 10))])
 (.seq (.reg [.op (some 11) (.mv (.t 0)),
  .op (some 12) (.mkfn (.func 138) [] [(.t 4), (.t 5)]),
  .op (some 13) (.call (.v (.lit (.func (.func 137) #[] #[]))) [(.t 11), (.t 12)]),
  .op (some 6) (.mv (.t 13))])
 .ret)))
def rs120 : List RR := [.tmp 6]
def cut120 : Nat → Nat := fun id => if id = 1 then 8 else 0
theorem k120 : (Try.f120.body.bind fun c => comp Try.prog Try.f120.ntmps cut120 c) = some r120 := by kernel_rfl
theorem by120 {W0 : World} {σ : List Blk} {args : List AV} {K : Cont} (hn : args.length ≤ 14) (h : rW Try.prog W0 σ.length r120 (initFr args) σ (finP W0 rs120 σ.length K)) : ACall Try.prog W0 120 args σ K :=
  ACall.introR mixed Try.func120 (by kernel_rfl) k120 (by kernel_rfl) hn h
def r121 : RC := (.seq (.reg [.op (some 4) (.mv (.v (.lit (.int .i64 (0)))))])
 (.seq (.seq (.reg [.op (some 6) (.mv (.t 0)),
  .op (some 7) (.lenL (.t 6)),
  .op (some 8) (.mv (.v (.lit (.int .i64 (0)))))])
 (.block 0 (.loop (.seq (.reg [.op (some 9) (.binI .lss (.t 8) (.t 7))])
 (.seq (.cond (.t 9)
 .skip
 (.exit 0))
 (.seq (.block 1 (.seq (.reg [.op (some 10) (.mv (.t 8)),
  .op (some 5) (.mv (.t 10))])
 (.seq (.reg [.op (some 11) (.mv (.t 1)),
  .op (some 12) (.mv (.t 0)),
  .op (some 13) (.mv (.t 5)),
  .op (some 14) (.iaddrS 1 (.t 12) (.t 13)),
  .op (some 15) (.load 1 false (.t 14)),
  .op (some 16) (.binI .eql (.t 11) (.t 15))])
 (.cond (.t 16)
 (.seq (.reg [.op (some 17) (.mv (.t 5)),
  .op (some 4) (.mv (.t 17))])
 .ret)
 .skip))))
 (.reg [.op (some 18) (.binI .add (.t 8) (.v (.lit (.int .i64 (1))))),
  .op (some 8) (.mv (.t 18))])))))))
 (.seq (.reg [.op (some 4) (.mv (.v (.lit (.int .i64 (-1)))))])
 .ret)))
def rs121 : List RR := [.tmp 4]
def cut121 : Nat → Nat := fun id => 0
theorem k121 : (Try.f121.body.bind fun c => comp Try.prog Try.f121.ntmps cut121 c) = some r121 := by kernel_rfl
theorem by121 {W0 : World} {σ : List Blk} {args : List AV} {K : Cont} (hn : args.length ≤ 19) (h : rW Try.prog W0 σ.length r121 (initFr args) σ (finP W0 rs121 σ.length K)) : ACall Try.prog W0 121 args σ K :=
  ACall.introR mixed Try.func121 (by kernel_rfl) k121 (by kernel_rfl) hn h
def r122 : RC := (.seq (.reg [.op (some 4) (.mv (.v (.lit (.bool false))))])
 (.seq (.reg [.op (some 5) (.mv (.t 0)),
  .op (some 6) (.mv (.t 1)),
  .op (some 7) (.binI .shr (.t 5) (.t 6)),
  .op (some 8) (.binI .and (.t 7) (.v (.lit (.int .u64 (1))))),
  .op (some 9) (.binI .eql (.t 8) (.v (.lit (.int .u64 (1))))),
  .op (some 4) (.mv (.t 9))])
 .ret))
def rs122 : List RR := [.tmp 4]
def cut122 : Nat → Nat := fun id => 0
theorem k122 : (Try.f122.body.bind fun c => comp Try.prog Try.f122.ntmps cut122 c) = some r122 := by kernel_rfl
theorem by122 {W0 : World} {σ : List Blk} {args : List AV} {K : Cont} (hn : args.length ≤ 10) (h : rW Try.prog W0 σ.length r122 (initFr args) σ (finP W0 rs122 σ.length K)) : ACall Try.prog W0 122 args σ K :=
  ACall.introR mixed Try.func122 (by kernel_rfl) k122 (by kernel_rfl) hn h
def r123 : RC := (.seq (.reg [.op (some 2) (.mv (.v (.lit (.slice none 0 0))))])
 (.seq (.reg [.op (some 3) (.bslice 3 1 0 [(.lit (.int .i64 (0)))] []),
  .op (some 4) (.mv (.t 0)),
  .op (some 5) (.append 34 3 1 8 (.t 3) (.t 4)),
  .op (some 2) (.mv (.t 5))])
 .ret))
def rs123 : List RR := [.tmp 2]
def cut123 : Nat → Nat := fun id => 0
theorem k123 : (Try.f123.body.bind fun c => comp Try.prog Try.f123.ntmps cut123 c) = some r123 := by kernel_rfl
theorem by123 {W0 : World} {σ : List Blk} {args : List AV} {K : Cont} (hn : args.length ≤ 6) (h : rW Try.prog W0 σ.length r123 (initFr args) σ (finP W0 rs123 σ.length K)) : ACall Try.prog W0 123 args σ K :=
  ACall.introR mixed Try.func123 (by kernel_rfl) k123 (by kernel_rfl) hn h
def r124 : RC := (.seq (.reg [.op (some 2) (.mv (.v (.lit (.bool false))))])
 (.seq (.reg [.op (some 3) (.mv (.t 0)),
  .op (some 4) (.mv (.t 0)),
  .op (some 5) (.binI .neq (.t 3) (.t 4)),
  .op (some 2) (.mv (.t 5))])
 .ret))
def rs124 : List RR := [.tmp 2]
def cut124 : Nat → Nat := fun id => 0
theorem k124 : (Try.f124.body.bind fun c => comp Try.prog Try.f124.ntmps cut124 c) = some r124 := by kernel_rfl
theorem by124 {W0 : World} {σ : List Blk} {args : List AV} {K : Cont} (hn : args.length ≤ 6) (h : rW Try.prog W0 σ.length r124 (initFr args) σ (finP W0 rs124 σ.length K)) : ACall Try.prog W0 124 args σ K :=
  ACall.introR mixed Try.func124 (by kernel_rfl) k124 (by kernel_rfl) hn h
def r125 : RC := (.seq (.reg [.op (some 2) (.box 61 (.t 0)),
  .op (some 3) (.box 65 (.t 1)),
  .op (some 4) (.alloc 61 (List.replicate 14 (.lit (.int .i64 (0))))),
  .op (some 5) (.mv (.v (.lit (.bool false))))])
 (.seq (.reg [.op (some 7) (.faddr 1 (.t 3)),
  .op (some 8) (.load 1 false (.t 7)),
  .op (some 9) (.faddr 2 (.t 3)),
  .op (some 10) (.load 1 false (.t 9)),
  .op (some 11) (.build [(.lit (.int .i64 (0))), (.lit (.int .i64 (0)))] [((0, 1), (.t 8)), ((1, 1), (.t 10))]),
  .op (some 6) (.alloc 81 [(.lit (.int .i64 (0))), (.lit (.int .i64 (0)))]),
  .op none (.store 2 (.t 6) (.t 11))])
 (.seq (.seq (.reg [.op (some 12) (.load 2 true (.t 6)),
  .op (some 13) (.call (.v (.lit (.func (.func 118) #[] #[]))) [(.t 12)]),
  .op (some 14) (.un .not (.t 13))])
 (.cond (.t 14)
 (.seq (.reg [.op (some 15) (.load 14 true (.t 2)),
  .op none (.store 14 (.t 4) (.t 15)),
  .op (some 5) (.mv (.v (.lit (.bool false))))])
 .ret)
 .skip))
 (.seq (.seq (.reg [.op (some 16) (.faddr 0 (.t 3)),
  .op (some 17) (.load 1 false (.t 16))])
 (.block 0 (.seq (.reg [.op (some 29) (.binI .eql (.t 17) (.v (.lit (.int .i64 (1))))),
  .op (some 28) (.mv (.t 29))])
 (.cond (.t 28)
 (.reg [.op (some 31) (.faddr 0 (.t 2)),
  .op (some 32) (.load 6 true (.t 31)),
  .op (some 33) (.faddr 6 (.t 2)),
  .op (some 34) (.load 6 true (.t 33)),
  .op (some 35) (.load 2 true (.t 6)),
  .op (some 36) (.call (.v (.lit (.func (.func 139) #[] #[]))) [(.t 32), (.t 34), (.t 35)]),
  .op (some 30) (.mv (.t 36)),
  .op (some 37) (.ext (.t 30) 0),
  .op (some 38) (.ext (.t 30) 1),
  .op (some 39) (.faddr 0 (.t 2)),
  .op none (.store 6 (.t 39) (.t 37))])
 (.seq (.reg [.op (some 41) (.binI .eql (.t 17) (.v (.lit (.int .i64 (2))))),
  .op (some 40) (.mv (.t 41))])
 (.cond (.t 40)
 (.reg [.op (some 43) (.faddr 0 (.t 2)),
  .op (some 44) (.load 6 true (.t 43)),
  .op (some 45) (.faddr 6 (.t 2)),
  .op (some 46) (.load 6 true (.t 45)),
  .op (some 47) (.load 2 true (.t 6)),
  .op (some 48) (.call (.v (.lit (.func (.func 140) #[] #[]))) [(.t 44), (.t 46), (.t 47)]),
  .op (some 42) (.mv (.t 48)),
  .op (some 49) (.ext (.t 42) 0),
  .op (some 50) (.ext (.t 42) 1),
  .op (some 51) (.faddr 0 (.t 2)),
  .op none (.store 6 (.t 51) (.t 49))])
 (.reg [.op (some 19) (.faddr 0 (.t 2)),
  .op (some 20) (.load 6 true (.t 19)),
  .op (some 21) (.faddr 6 (.t 2)),
  .op (some 22) (.load 6 true (.t 21)),
  .op (some 23) (.load 2 true (.t 6)),
  .op (some 24) (.call (.v (.lit (.func (.func 141) #[] #[]))) [(.t 20), (.t 22), (.t 23)]),
  .op (some 18) (.mv (.t 24)),
  .op (some 25) (.ext (.t 18) 0),
  .op (some 26) (.ext (.t 18) 1),
  .op (some 27) (.faddr 0 (.t 2)),
  .op none (.store 6 (.t 27) (.t 25))])))))))
 (.seq (.reg [.op (some 52) (.faddr 12 (.t 2)),
  .op (some 53) (.load 1 false (.t 52)),
  .op (some 54) (.binI .add (.t 53) (.v (.lit (.int .i64 (1))))),
  .op (some 55) (.faddr 12 (.t 2)),
  .op none (.store 1 (.t 55) (.t 54))])
 (.seq (.reg [.op (some 56) (.load 14 true (.t 2)),
  .op none (.store 14 (.t 4) (.t 56)),
  .op (some 5) (.mv (.v (.lit (.bool true))))])
 .ret))))))
def rs125 : List RR := [.cell 4 14 true, .tmp 5]
def cut125 : Nat → Nat := fun id => 0
theorem k125 : (Try.f125.body.bind fun c => comp Try.prog Try.f125.ntmps cut125 c) = some r125 := by kernel_rfl
theorem by125 {W0 : World} {σ : List Blk} {args : List AV} {K : Cont} (hn : args.length ≤ 57) (h : rW Try.prog W0 σ.length r125 (initFr args) σ (finP W0 rs125 σ.length K)) : ACall Try.prog W0 125 args σ K :=
  ACall.introR mixed Try.func125 (by kernel_rfl) k125 (by kernel_rfl) hn h
def r126 : RC := (.seq (.reg [.op (some 2) (.box 59 (.t 0)),
  .op (some 4) (.alloc 59 (List.replicate 6 (.lit (.int .i64 (0))))),
  .op (some 5) (.mv (.v (.lit (.bool false))))])
 (.seq (.seq (.reg [.op (some 6) (.load 6 true (.t 2)),
  .op (some 7) (.call (.v (.lit (.func (.func 107) #[] #[]))) [(.t 6)]),
  .op (some 8) (.un .not (.t 7)),
  .op (some 9) (.mv (.t 8)),
  .grp 9 false [((some 10), (.mv (.t 1))), ((some 11), (.call (.v (.lit (.func (.func 142) #[] #[]))) [(.t 10)])), ((some 12), (.un .not (.t 11)))],
  .op (some 13) (.pick (.t 9) (.v (.lit (.bool true))) (.t 12))])
 (.cond (.t 13)
 (.seq (.reg [.op (some 14) (.build (List.replicate 6 (.lit (.int .i64 (0)))) []),
  .op none (.store 6 (.t 4) (.t 14)),
  .op (some 5) (.mv (.v (.lit (.bool false))))])
 .ret)
 .skip))
 (.seq (.reg [.op (some 15) (.load 6 true (.t 2)),
  .op (some 16) (.mv (.t 1)),
  .op (some 17) (.call (.v (.lit (.func (.func 143) #[] #[]))) [(.t 15), (.t 16)]),
  .op none (.store 6 (.t 4) (.t 17)),
  .op (some 5) (.mv (.v (.lit (.bool true))))])
 .ret)))
def rs126 : List RR := [.cell 4 6 true, .tmp 5]
def cut126 : Nat → Nat := fun id => 0
theorem k126 : (Try.f126.body.bind fun c => comp Try.prog Try.f126.ntmps cut126 c) = some r126 := by kernel_rfl
theorem by126 {W0 : World} {σ : List Blk} {args : List AV} {K : Cont} (hn : args.length ≤ 18) (h : rW Try.prog W0 σ.length r126 (initFr args) σ (finP W0 rs126 σ.length K)) : ACall Try.prog W0 126 args σ K :=
  ACall.introR mixed Try.func126 (by kernel_rfl) k126 (by kernel_rfl) hn h
def r127 : RC := (.seq (.reg [.op (some 2) (.box 59 (.t 0)),
  .op (some 3) (.box 81 (.t 1)),
  .op (some 4) (.alloc 59 (List.replicate 6 (.lit (.int .i64 (0))))),
  .op (some 5) (.mv (.v (.lit (.bool false))))])
 (.seq (.seq (.reg [.op (some 6) (.load 6 true (.t 2)),
  .op (some 7) (.call (.v (.lit (.func (.func 107) #[] #[]))) [(.t 6)]),
  .op (some 8) (.un .not (.t 7)),
  .op (some 9) (.mv (.t 8)),
  .grp 9 false [((some 10), (.load 2 true (.t 3))), ((some 11), (.call (.v (.lit (.func (.func 118) #[] #[]))) [(.t 10)])), ((some 12), (.un .not (.t 11)))],
  .op (some 13) (.pick (.t 9) (.v (.lit (.bool true))) (.t 12))])
 (.cond (.t 13)
 (.seq (.reg [.op (some 14) (.build (List.replicate 6 (.lit (.int .i64 (0)))) []),
  .op none (.store 6 (.t 4) (.t 14)),
  .op (some 5) (.mv (.v (.lit (.bool false))))])
 .ret)
 .skip))
 (.seq (.reg [.op (some 15) (.load 6 true (.t 2)),
  .op (some 16) (.iaddrA 2 1 (.t 3) (.v (.lit (.int .i64 (0))))),
  .op (some 17) (.load 1 false (.t 16)),
  .op (some 18) (.iaddrA 2 1 (.t 3) (.v (.lit (.int .i64 (1))))),
  .op (some 19) (.load 1 false (.t 18)),
  .op (some 20) (.call (.v (.lit (.func (.func 144) #[] #[]))) [(.t 15), (.t 17), (.t 19)]),
  .op none (.store 6 (.t 4) (.t 20)),
  .op (some 5) (.mv (.v (.lit (.bool true))))])
 .ret)))
def rs127 : List RR := [.cell 4 6 true, .tmp 5]
def cut127 : Nat → Nat := fun id => 0
theorem k127 : (Try.f127.body.bind fun c => comp Try.prog Try.f127.ntmps cut127 c) = some r127 := by kernel_rfl
theorem by127 {W0 : World} {σ : List Blk} {args : List AV} {K : Cont} (hn : args.length ≤ 21) (h : rW Try.prog W0 σ.length r127 (initFr args) σ (finP W0 rs127 σ.length K)) : ACall Try.prog W0 127 args σ K :=
  ACall.introR mixed Try.func127 (by kernel_rfl) k127 (by kernel_rfl) hn h
def r128 : RC := (.seq (.reg [.op (some 4) (.box 59 (.t 0)),
  .op (some 5) (.box 59 (.t 1)),
  .op (some 6) (.box 81 (.t 2)),
  .op (some 8) (.alloc 59 (List.replicate 6 (.lit (.int .i64 (0))))),
  .op (some 9) (.mv (.v (.lit (.bool false))))])
 (.seq (.reg [.op (some 14) (.load 6 true (.t 4)),
  .op (some 15) (.load 6 true (.t 5)),
  .op (some 16) (.call (.v (.lit (.func (.func 145) #[] #[]))) [(.t 14), (.t 15)]),
  .op (some 13) (.mv (.t 16)),
  .op (some 17) (.ext (.t 13) 0),
  .op (some 18) (.ext (.t 13) 1),
  .op (some 19) (.ext (.t 13) 2),
  .op (some 10) (.mv (.t 17)),
  .op (some 11) (.mv (.t 18)),
  .op (some 12) (.mv (.t 19))])
 (.seq (.seq (.reg [.op (some 20) (.mv (.t 12)),
  .op (some 21) (.un .not (.t 20)),
  .op (some 22) (.mv (.t 21)),
  .grp 22 false [((some 23), (.load 2 true (.t 6))), ((some 24), (.call (.v (.lit (.func (.func 114) #[] #[]))) [(.t 23)])), ((some 25), (.un .not (.t 24)))],
  .op (some 26) (.pick (.t 22) (.v (.lit (.bool true))) (.t 25))])
 (.cond (.t 26)
 (.seq (.reg [.op (some 27) (.build (List.replicate 6 (.lit (.int .i64 (0)))) []),
  .op none (.store 6 (.t 8) (.t 27)),
  .op (some 9) (.mv (.v (.lit (.bool false))))])
 .ret)
 .skip))
 (.seq (.reg [.op (some 28) (.mv (.t 3)),
  .op (some 29) (.mv (.t 10)),
  .op (some 30) (.mv (.t 11)),
  .op (some 31) (.load 2 true (.t 6)),
  .op (some 32) (.call (.v (.lit (.func (.func 91) #[] #[]))) [(.t 31)]),
  .op (some 33) (.call (.v (.lit (.func (.func 90) #[] #[]))) [(.t 30), (.t 32)]),
  .op (some 34) (.call (.t 28) [(.t 29), (.t 33)]),
  .op (some 35) (.call (.v (.lit (.func (.func 132) #[] #[]))) [(.t 34)]),
  .op none (.store 6 (.t 8) (.t 35)),
  .op (some 9) (.mv (.v (.lit (.bool true))))])
 .ret))))
def rs128 : List RR := [.cell 8 6 true, .tmp 9]
def cut128 : Nat → Nat := fun id => 0
theorem k128 : (Try.f128.body.bind fun c => comp Try.prog Try.f128.ntmps cut128 c) = some r128 := by kernel_rfl
theorem by128 {W0 : World} {σ : List Blk} {args : List AV} {K : Cont} (hn : args.length ≤ 36) (h : rW Try.prog W0 σ.length r128 (initFr args) σ (finP W0 rs128 σ.length K)) : ACall Try.prog W0 128 args σ K :=
  ACall.introR mixed Try.func128 (by kernel_rfl) k128 (by kernel_rfl) hn h
def r129 : RC := (.seq (.reg [.op (some 4) (.mv (.v (.lit (.int .u64 (0)))))])
 (.seq (.reg [.op (some 5) (.mv (.t 0)),
  .op (some 6) (.mv (.t 1)),
  .op (some 7) (.binI .xor (.t 5) (.t 6)),
  .op (some 4) (.mv (.t 7))])
 .ret))
def rs129 : List RR := [.tmp 4]
def cut129 : Nat → Nat := fun id => 0
theorem k129 : (Try.f129.body.bind fun c => comp Try.prog Try.f129.ntmps cut129 c) = some r129 := by kernel_rfl
theorem by129 {W0 : World} {σ : List Blk} {args : List AV} {K : Cont} (hn : args.length ≤ 8) (h : rW Try.prog W0 σ.length r129 (initFr args) σ (finP W0 rs129 σ.length K)) : ACall Try.prog W0 129 args σ K :=
  ACall.introR mixed Try.func129 (by kernel_rfl) k129 (by kernel_rfl) hn h
def r130 : RC := (.seq (.reg [.op (some 4) (.mv (.v (.lit (.int .u64 (0)))))])
 (.seq (.reg [.op (some 5) (.mv (.t 0)),
  .op (some 6) (.mv (.t 1)),
  .op (some 7) (.binI .or (.t 5) (.t 6)),
  .op (some 4) (.mv (.t 7))])
 .ret))
def rs130 : List RR := [.tmp 4]
def cut130 : Nat → Nat := fun id => 0
theorem k130 : (Try.f130.body.bind fun c => comp Try.prog Try.f130.ntmps cut130 c) = some r130 := by kernel_rfl
theorem by130 {W0 : World} {σ : List Blk} {args : List AV} {K : Cont} (hn : args.length ≤ 8) (h : rW Try.prog W0 σ.length r130 (initFr args) σ (finP W0 rs130 σ.length K)) : ACall Try.prog W0 130 args σ K :=
  ACall.introR mixed Try.func130 (by kernel_rfl) k130 (by kernel_rfl) hn h
def r131 : RC := (.seq (.reg [.op (some 4) (.mv (.v (.lit (.int .u64 (0)))))])
 (.seq (.reg [.op (some 5) (.mv (.t 0)),
  .op (some 6) (.mv (.t 1)),
  .op (some 7) (.binI .andNot (.t 5) (.t 6)),
  .op (some 4) (.mv (.t 7))])
 .ret))
def rs131 : List RR := [.tmp 4]
def cut131 : Nat → Nat := fun id => 0
theorem k131 : (Try.f131.body.bind fun c => comp Try.prog Try.f131.ntmps cut131 c) = some r131 := by kernel_rfl
theorem by131 {W0 : World} {σ : List Blk} {args : List AV} {K : Cont} (hn : args.length ≤ 8) (h : rW Try.prog W0 σ.length r131 (initFr args) σ (finP W0 rs131 σ.length K)) : ACall Try.prog W0 131 args σ K :=
  ACall.introR mixed Try.func131 (by kernel_rfl) k131 (by kernel_rfl) hn h
def r132 : RC := (.seq (.reg [.op (some 2) (.alloc 59 (List.replicate 6 (.lit (.int .i64 (0)))))])
 (.seq (.reg [.op (some 5) (.build (List.replicate 6 (.lit (.int .i64 (0)))) []),
  .op (some 3) (.alloc 59 (List.replicate 6 (.lit (.int .i64 (0))))),
  .op none (.store 6 (.t 3) (.t 5))])
 (.seq (.seq (.reg [.op (some 6) (.mv (.v (.lit (.int .i64 (0)))))])
 (.block 0 (.loop (.seq (.reg [.op (some 7) (.binI .lss (.t 6) (.v (.lit (.int .i64 (6)))))])
 (.seq (.cond (.t 7)
 .skip
 (.exit 0))
 (.seq (.block 1 (.seq (.reg [.op (some 8) (.mv (.t 6)),
  .op (some 4) (.mv (.t 8))])
 (.reg [.op (some 9) (.mv (.t 4)),
  .op (some 10) (.mv (.t 0)),
  .op (some 11) (.mv (.t 4)),
  .op (some 12) (.binI .mul (.t 11) (.v (.lit (.int .i64 (6))))),
  .op (some 13) (.binI .shr (.t 10) (.t 12)),
  .op (some 14) (.binI .and (.t 13) (.v (.lit (.int .u64 (63))))),
  .op (some 15) (.conv .i64 (.t 14)),
  .op (some 16) (.faddr 0 (.t 3)),
  .op (some 17) (.iaddrA 6 1 (.t 16) (.t 9)),
  .op none (.store 1 (.t 17) (.t 15))])))
 (.reg [.op (some 18) (.binI .add (.t 6) (.v (.lit (.int .i64 (1))))),
  .op (some 6) (.mv (.t 18))])))))))
 (.seq (.reg [.op (some 19) (.load 6 true (.t 3)),
  .op none (.store 6 (.t 2) (.t 19))])
 .ret))))
def rs132 : List RR := [.cell 2 6 true]
def cut132 : Nat → Nat := fun id => 0
theorem k132 : (Try.f132.body.bind fun c => comp Try.prog Try.f132.ntmps cut132 c) = some r132 := by kernel_rfl
theorem by132 {W0 : World} {σ : List Blk} {args : List AV} {K : Cont} (hn : args.length ≤ 20) (h : rW Try.prog W0 σ.length r132 (initFr args) σ (finP W0 rs132 σ.length K)) : ACall Try.prog W0 132 args σ K :=
  ACall.introR mixed Try.func132 (by kernel_rfl) k132 (by kernel_rfl) hn h
def r133 : RC := (.seq (.reg [.op (some 2) (.mv (.v (.lit (.bool false))))])
 (.seq (.reg [.op (some 3) (.mv (.t 0)),
  .op (some 4) (.binI .geq (.t 3) (.v (.lit (.int .i64 (0))))),
  .op (some 5) (.mv (.t 4)),
  .grp 5 true [((some 6), (.mv (.t 0))), ((some 7), (.binI .lss (.t 6) (.v (.lit (.int .i64 (8))))))],
  .op (some 8) (.pick (.t 5) (.t 7) (.v (.lit (.bool false)))),
  .op (some 2) (.mv (.t 8))])
 .ret))
def rs133 : List RR := [.tmp 2]
def cut133 : Nat → Nat := fun id => 0
theorem k133 : (Try.f133.body.bind fun c => comp Try.prog Try.f133.ntmps cut133 c) = some r133 := by kernel_rfl
theorem by133 {W0 : World} {σ : List Blk} {args : List AV} {K : Cont} (hn : args.length ≤ 9) (h : rW Try.prog W0 σ.length r133 (initFr args) σ (finP W0 rs133 σ.length K)) : ACall Try.prog W0 133 args σ K :=
  ACall.introR mixed Try.func133 (by kernel_rfl) k133 (by kernel_rfl) hn h
def r134 : RC := (.seq (.reg [.op (some 3) (.box 3 (.t 1)),
  .op (some 4) (.mv (.v (.lit (.int .u64 (0)))))])
 (.seq (.reg [.op (some 5) (.mv (.t 0)),
  .op (some 6) (.mkfn (.func 146) [] [(.t 3)]),
  .op (some 7) (.call (.v (.lit (.func (.func 137) #[] #[]))) [(.t 5), (.t 6)]),
  .op (some 4) (.mv (.t 7))])
 .ret))
def rs134 : List RR := [.tmp 4]
def cut134 : Nat → Nat := fun id => 0
theorem k134 : (Try.f134.body.bind fun c => comp Try.prog Try.f134.ntmps cut134 c) = some r134 := by kernel_rfl
theorem by134 {W0 : World} {σ : List Blk} {args : List AV} {K : Cont} (hn : args.length ≤ 8) (h : rW Try.prog W0 σ.length r134 (initFr args) σ (finP W0 rs134 σ.length K)) : ACall Try.prog W0 134 args σ K :=
  ACall.introR mixed Try.func134 (by kernel_rfl) k134 (by kernel_rfl) hn h
def r135 : RC := (.seq (.reg [.op (some 2) (.mv (.v (.lit (.int .i64 (0)))))])
 (.seq (.reg [.op (some 3) (.mv (.t 0)),
  .op (some 4) (.binI .rem (.t 3) (.v (.lit (.int .i64 (6))))),
  .op (some 5) (.binI .add (.t 4) (.v (.lit (.int .i64 (6))))),
  .op (some 6) (.binI .rem (.t 5) (.v (.lit (.int .i64 (6))))),
  .op (some 2) (.mv (.t 6))])
 .ret))
def rs135 : List RR := [.tmp 2]
def cut135 : Nat → Nat := fun id => 0
theorem k135 : (Try.f135.body.bind fun c => comp Try.prog Try.f135.ntmps cut135 c) = some r135 := by kernel_rfl
theorem by135 {W0 : World} {σ : List Blk} {args : List AV} {K : Cont} (hn : args.length ≤ 7) (h : rW Try.prog W0 σ.length r135 (initFr args) σ (finP W0 rs135 σ.length K)) : ACall Try.prog W0 135 args σ K :=
  ACall.introR mixed Try.func135 (by kernel_rfl) k135 (by kernel_rfl) hn h
def r136 : RC := (.seq (.reg [.op (some 2) (.mv (.v (.lit (.int .i64 (0)))))])
 (.seq (.reg [.op (some 3) (.mv (.t 0)),
  .op (some 4) (.binI .rem (.t 3) (.v (.lit (.int .i64 (6))))),
  .op (some 5) (.binI .add (.t 4) (.v (.lit (.int .i64 (6))))),
  .op (some 6) (.binI .rem (.t 5) (.v (.lit (.int .i64 (6))))),
  .op (some 2) (.mv (.t 6))])
 .ret))
def rs136 : List RR := [.tmp 2]
def cut136 : Nat → Nat := fun id => 0
theorem k136 : (Try.f136.body.bind fun c => comp Try.prog Try.f136.ntmps cut136 c) = some r136 := by kernel_rfl
theorem by136 {W0 : World} {σ : List Blk} {args : List AV} {K : Cont} (hn : args.length ≤ 7) (h : rW Try.prog W0 σ.length r136 (initFr args) σ (finP W0 rs136 σ.length K)) : ACall Try.prog W0 136 args σ K :=
  ACall.introR mixed Try.func136 (by kernel_rfl) k136 (by kernel_rfl) hn h
def r137 : RC := (.seq (.reg [.op (some 4) (.mv (.v (.lit (.int .u64 (0)))))])
 (.seq (.reg [.op (some 5) (.mv (.v (.lit (.int .u64 (0)))))])
 (.seq (.seq (.reg [.op (some 9) (.mv (.v (.lit (.int .i64 (0)))))])
 (.block 0 (.loop (.seq (.reg [.op (some 10) (.binI .lss (.t 9) (.v (.lit (.int .i64 (36)))))])
 (.seq (.cond (.t 10)
 .skip
 (.exit 0))
 (.seq (.block 1 (.seq (.reg [.op (some 11) (.mv (.t 9)),
  .op (some 6) (.mv (.t 11))])
 (.seq (.reg [.op (some 12) (.mv (.t 0)),
  .op (some 13) (.mv (.t 6)),
  .op (some 14) (.call (.v (.lit (.func (.func 122) #[] #[]))) [(.t 12), (.t 13)])])
 (.cond (.t 14)
 (.seq (.reg [.op (some 16) (.mv (.t 1)),
  .op (some 17) (.mv (.t 6)),
  .op (some 18) (.binI .rem (.t 17) (.v (.lit (.int .i64 (6))))),
  .op (some 19) (.mv (.t 6)),
  .op (some 20) (.binI .quo (.t 19) (.v (.lit (.int .i64 (6))))),
  .op (some 21) (.call (.t 16) [(.t 18), (.t 20)]),
  .op (some 15) (.mv (.t 21)),
  .op (some 22) (.ext (.t 15) 0),
  .op (some 23) (.ext (.t 15) 1),
  .op (some 7) (.mv (.t 22)),
  .op (some 8) (.mv (.t 23))])
 (.reg [.op (some 24) (.mv (.t 5)),
  .op (some 25) (.mv (.t 8)),
  .op (some 26) (.binI .mul (.t 25) (.v (.lit (.int .i64 (6))))),
  .op (some 27) (.mv (.t 7)),
  .op (some 28) (.binI .add (.t 26) (.t 27)),
  .op (some 29) (.binI .shl (.v (.lit (.int .u64 (1)))) (.t 28)),
  .op (some 30) (.binI .or (.t 24) (.t 29)),
  .op (some 5) (.mv (.t 30))]))
 .skip))))
 (.reg [.op (some 31) (.binI .add (.t 9) (.v (.lit (.int .i64 (1))))),
  .op (some 9) (.mv (.t 31))])))))))
 (.seq (.reg [.op (some 32) (.mv (.t 5)),
  .op (some 4) (.mv (.t 32))])
 .ret))))
def rs137 : List RR := [.tmp 4]
def cut137 : Nat → Nat := fun id => 0
theorem k137 : (Try.f137.body.bind fun c => comp Try.prog Try.f137.ntmps cut137 c) = some r137 := by kernel_rfl
theorem by137 {W0 : World} {σ : List Blk} {args : List AV} {K : Cont} (hn : args.length ≤ 33) (h : rW Try.prog W0 σ.length r137 (initFr args) σ (finP W0 rs137 σ.length K)) : ACall Try.prog W0 137 args σ K :=
  ACall.introR mixed Try.func137 (by kernel_rfl) k137 (by kernel_rfl) hn h
def r138 : RC := (.seq (.reg [.op (some 6) (.mv (.v (.lit (.int .i64 (0))))),
  .op (some 7) (.mv (.v (.lit (.int .i64 (0)))))])
 (.seq (.draw [((some 8), (.mv (.t 0))), ((some 9), (.load 1 false (.t 2))), ((some 10), (.binI .add (.t 8) (.t 9))), ((some 11), (.binI .rem (.t 10) (.v (.lit (.int .i64 (6)))))), ((some 12), (.mv (.t 1))), ((some 13), (.load 1 false (.t 3))), ((some 14), (.binI .add (.t 12) (.t 13))), ((some 15), (.binI .rem (.t 14) (.v (.lit (.int .i64 (6)))))), ((some 6), (.mv (.t 11))), ((some 7), (.mv (.t 15)))] [])
 .ret))
def rs138 : List RR := [.tmp 6, .tmp 7]
def cut138 : Nat → Nat := fun id => if id = 1 then 21 else 0
theorem k138 : (Try.f138.body.bind fun c => comp Try.prog Try.f138.ntmps cut138 c) = some r138 := by kernel_rfl
theorem by138 {W0 : World} {σ : List Blk} {args : List AV} {K : Cont} (hn : args.length ≤ 16) (h : rW Try.prog W0 σ.length r138 (initFr args) σ (finP W0 rs138 σ.length K)) : ACall Try.prog W0 138 args σ K :=
  ACall.introR mixed Try.func138 (by kernel_rfl) k138 (by kernel_rfl) hn h
def r139 : RC := (.seq (.reg [.op (some 3) (.box 59 (.t 0)),
  .op (some 4) (.box 59 (.t 1)),
  .op (some 5) (.box 81 (.t 2)),
  .op (some 6) (.alloc 59 (List.replicate 6 (.lit (.int .i64 (0))))),
  .op (some 7) (.mv (.v (.lit (.bool false))))])
 (.seq (.seq (.reg [.op (some 8) (.load 6 true (.t 3)),
  .op (some 9) (.load 6 true (.t 4)),
  .op (some 10) (.load 2 true (.t 5)),
  .op (some 11) (.call (.v (.lit (.func (.func 148) #[] #[]))) [(.t 8), (.t 9), (.t 10)]),
  .op (some 12) (.un .not (.t 11))])
 (.cond (.t 12)
 (.seq (.reg [.op (some 13) (.build (List.replicate 6 (.lit (.int .i64 (0)))) []),
  .op none (.store 6 (.t 6) (.t 13)),
  .op (some 7) (.mv (.v (.lit (.bool false))))])
 .ret)
 .skip))
 (.seq (.draw [((some 14), (.load 6 true (.t 3))), ((some 15), (.load 6 true (.t 4))), ((some 16), (.load 2 true (.t 5))), ((some 17), (.call (.v (.lit (.func (.func 86) #[] #[]))) [(.t 15), (.t 16)])), ((some 18), (.call (.v (.lit (.func (.func 149) #[] #[]))) [(.t 14), (.t 17)]))] [(none, (.store 6 (.t 6) (.t 18))), ((some 7), (.mv (.v (.lit (.bool true)))))])
 .ret)))
def rs139 : List RR := [.cell 6 6 true, .tmp 7]
def cut139 : Nat → Nat := fun id => if id = 3 then 11 else 0
theorem k139 : (Try.f139.body.bind fun c => comp Try.prog Try.f139.ntmps cut139 c) = some r139 := by kernel_rfl
theorem by139 {W0 : World} {σ : List Blk} {args : List AV} {K : Cont} (hn : args.length ≤ 19) (h : rW Try.prog W0 σ.length r139 (initFr args) σ (finP W0 rs139 σ.length K)) : ACall Try.prog W0 139 args σ K :=
  ACall.introR mixed Try.func139 (by kernel_rfl) k139 (by kernel_rfl) hn h
def r140 : RC := (.seq (.reg [.op (some 3) (.box 59 (.t 0)),
  .op (some 4) (.box 59 (.t 1)),
  .op (some 5) (.box 81 (.t 2)),
  .op (some 6) (.alloc 59 (List.replicate 6 (.lit (.int .i64 (0))))),
  .op (some 7) (.mv (.v (.lit (.bool false))))])
 (.seq (.seq (.reg [.op (some 8) (.load 6 true (.t 3)),
  .op (some 9) (.load 6 true (.t 4)),
  .op (some 10) (.load 2 true (.t 5)),
  .op (some 11) (.call (.v (.lit (.func (.func 148) #[] #[]))) [(.t 8), (.t 9), (.t 10)]),
  .op (some 12) (.un .not (.t 11))])
 (.cond (.t 12)
 (.seq (.reg [.op (some 13) (.build (List.replicate 6 (.lit (.int .i64 (0)))) []),
  .op none (.store 6 (.t 6) (.t 13)),
  .op (some 7) (.mv (.v (.lit (.bool false))))])
 .ret)
 .skip))
 (.seq (.draw [((some 14), (.load 6 true (.t 3))), ((some 15), (.load 6 true (.t 4))), ((some 16), (.load 2 true (.t 5))), ((some 17), (.call (.v (.lit (.func (.func 86) #[] #[]))) [(.t 15), (.t 16)])), ((some 18), (.call (.v (.lit (.func (.func 93) #[] #[]))) [(.t 14), (.t 17)]))] [(none, (.store 6 (.t 6) (.t 18))), ((some 7), (.mv (.v (.lit (.bool true)))))])
 .ret)))
def rs140 : List RR := [.cell 6 6 true, .tmp 7]
def cut140 : Nat → Nat := fun id => if id = 3 then 11 else 0
theorem k140 : (Try.f140.body.bind fun c => comp Try.prog Try.f140.ntmps cut140 c) = some r140 := by kernel_rfl
theorem by140 {W0 : World} {σ : List Blk} {args : List AV} {K : Cont} (hn : args.length ≤ 19) (h : rW Try.prog W0 σ.length r140 (initFr args) σ (finP W0 rs140 σ.length K)) : ACall Try.prog W0 140 args σ K :=
  ACall.introR mixed Try.func140 (by kernel_rfl) k140 (by kernel_rfl) hn h
def r141 : RC := (.seq (.reg [.op (some 3) (.box 59 (.t 0)),
  .op (some 4) (.box 59 (.t 1)),
  .op (some 5) (.box 81 (.t 2)),
  .op (some 6) (.alloc 59 (List.replicate 6 (.lit (.int .i64 (0))))),
  .op (some 7) (.mv (.v (.lit (.bool false))))])
 (.seq (.seq (.reg [.op (some 8) (.load 6 true (.t 3)),
  .op (some 9) (.load 6 true (.t 4)),
  .op (some 10) (.load 2 true (.t 5)),
  .op (some 11) (.call (.v (.lit (.func (.func 148) #[] #[]))) [(.t 8), (.t 9), (.t 10)]),
  .op (some 12) (.un .not (.t 11))])
 (.cond (.t 12)
 (.seq (.reg [.op (some 13) (.build (List.replicate 6 (.lit (.int .i64 (0)))) []),
  .op none (.store 6 (.t 6) (.t 13)),
  .op (some 7) (.mv (.v (.lit (.bool false))))])
 .ret)
 .skip))
 (.seq (.draw [((some 14), (.load 6 true (.t 3))), ((some 15), (.load 6 true (.t 4))), ((some 16), (.load 2 true (.t 5))), ((some 17), (.call (.v (.lit (.func (.func 86) #[] #[]))) [(.t 15), (.t 16)])), ((some 18), (.call (.v (.lit (.func (.func 92) #[] #[]))) [(.t 17)])), ((some 19), (.call (.v (.lit (.func (.func 53) #[] #[]))) [(.t 14), (.t 18)]))] [(none, (.store 6 (.t 6) (.t 19))), ((some 7), (.mv (.v (.lit (.bool true)))))])
 .ret)))
def rs141 : List RR := [.cell 6 6 true, .tmp 7]
def cut141 : Nat → Nat := fun id => if id = 3 then 13 else 0
theorem k141 : (Try.f141.body.bind fun c => comp Try.prog Try.f141.ntmps cut141 c) = some r141 := by kernel_rfl
theorem by141 {W0 : World} {σ : List Blk} {args : List AV} {K : Cont} (hn : args.length ≤ 20) (h : rW Try.prog W0 σ.length r141 (initFr args) σ (finP W0 rs141 σ.length K)) : ACall Try.prog W0 141 args σ K :=
  ACall.introR mixed Try.func141 (by kernel_rfl) k141 (by kernel_rfl) hn h
def r142 : RC := (.seq (.reg [.op (some 2) (.mv (.v (.lit (.bool false))))])
 (.seq (.reg [.op (some 3) (.mv (.t 0)),
  .op (some 4) (.call (.v (.lit (.func (.func 95) #[] #[]))) [(.t 3), (.v (.lit (.int .i64 (0)))), (.v (.lit (.int .i64 (7))))]),
  .op (some 2) (.mv (.t 4))])
 .ret))
def rs142 : List RR := [.tmp 2]
def cut142 : Nat → Nat := fun id => 0
theorem k142 : (Try.f142.body.bind fun c => comp Try.prog Try.f142.ntmps cut142 c) = some r142 := by kernel_rfl
theorem by142 {W0 : World} {σ : List Blk} {args : List AV} {K : Cont} (hn : args.length ≤ 5) (h : rW Try.prog W0 σ.length r142 (initFr args) σ (finP W0 rs142 σ.length K)) : ACall Try.prog W0 142 args σ K :=
  ACall.introR mixed Try.func142 (by kernel_rfl) k142 (by kernel_rfl) hn h
def r143 : RC := (.seq (.reg [.op (some 2) (.box 59 (.t 0)),
  .op (some 4) (.alloc 59 (List.replicate 6 (.lit (.int .i64 (0)))))])
 (.seq (.seq (.reg [.op (some 5) (.mv (.v (.lit (.int .i64 (0)))))])
 (.block 0 (.loop (.seq (.seq (.reg [.op (some 6) (.mv (.t 5)),
  .op (some 7) (.mv (.t 1)),
  .op (some 8) (.binI .rem (.t 7) (.v (.lit (.int .i64 (4))))),
  .op (some 9) (.binI .lss (.t 6) (.t 8))])
 (.cond (.t 9)
 .skip
 (.exit 0)))
 (.seq (.block 1 (.reg [.op (some 12) (.load 6 true (.t 2)),
  .op (some 13) (.call (.v (.lit (.func (.func 150) #[] #[]))) [(.t 12)]),
  .op none (.store 6 (.t 2) (.t 13))]))
 (.reg [.op (some 10) (.mv (.t 5)),
  .op (some 11) (.binI .add (.t 10) (.v (.lit (.int .i64 (1))))),
  .op (some 5) (.mv (.t 11))]))))))
 (.seq (.seq (.reg [.op (some 14) (.mv (.t 1)),
  .op (some 15) (.binI .geq (.t 14) (.v (.lit (.int .i64 (4)))))])
 (.cond (.t 15)
 (.seq (.reg [.op (some 16) (.load 6 true (.t 2)),
  .op (some 17) (.call (.v (.lit (.func (.func 151) #[] #[]))) [(.t 16)]),
  .op none (.store 6 (.t 4) (.t 17))])
 .ret)
 .skip))
 (.seq (.reg [.op (some 18) (.load 6 true (.t 2)),
  .op none (.store 6 (.t 4) (.t 18))])
 .ret))))
def rs143 : List RR := [.cell 4 6 true]
def cut143 : Nat → Nat := fun id => 0
theorem k143 : (Try.f143.body.bind fun c => comp Try.prog Try.f143.ntmps cut143 c) = some r143 := by kernel_rfl
theorem by143 {W0 : World} {σ : List Blk} {args : List AV} {K : Cont} (hn : args.length ≤ 19) (h : rW Try.prog W0 σ.length r143 (initFr args) σ (finP W0 rs143 σ.length K)) : ACall Try.prog W0 143 args σ K :=
  ACall.introR mixed Try.func143 (by kernel_rfl) k143 (by kernel_rfl) hn h
def r144 : RC := (.seq (.reg [.op (some 3) (.box 59 (.t 0)),
  .op (some 6) (.alloc 59 (List.replicate 6 (.lit (.int .i64 (0)))))])
 (.seq (.quiet [.op (some 7) (.mv (.t 2)),
  .op (some 8) (.mv (.t 2)),
  .op (some 9) (.faddr 0 (.t 3)),
  .op (some 10) (.iaddrA 6 1 (.t 9) (.t 8)),
  .op (some 11) (.load 1 false (.t 10)),
  .op (some 12) (.mv (.t 1)),
  .op (some 13) (.binI .shl (.v (.lit (.int .i64 (1)))) (.t 12)),
  .op (some 14) (.binI .xor (.t 11) (.t 13)),
  .op (some 15) (.faddr 0 (.t 3)),
  .op (some 16) (.iaddrA 6 1 (.t 15) (.t 7))] [.op none (.store 1 (.t 16) (.t 14))])
 (.seq (.reg [.op (some 17) (.load 6 true (.t 3)),
  .op none (.store 6 (.t 6) (.t 17))])
 .ret)))
def rs144 : List RR := [.cell 6 6 true]
def cut144 : Nat → Nat := fun id => if id = 1 then 20 else 0
theorem k144 : (Try.f144.body.bind fun c => comp Try.prog Try.f144.ntmps cut144 c) = some r144 := by kernel_rfl
theorem by144 {W0 : World} {σ : List Blk} {args : List AV} {K : Cont} (hn : args.length ≤ 18) (h : rW Try.prog W0 σ.length r144 (initFr args) σ (finP W0 rs144 σ.length K)) : ACall Try.prog W0 144 args σ K :=
  ACall.introR mixed Try.func144 (by kernel_rfl) k144 (by kernel_rfl) hn h
def r145 : RC := (.seq (.reg [.op (some 2) (.box 59 (.t 0)),
  .op (some 3) (.box 59 (.t 1)),
  .op (some 4) (.mv (.v (.lit (.int .u64 (0))))),
  .op (some 5) (.mv (.v (.lit (.int .u64 (0))))),
  .op (some 6) (.mv (.v (.lit (.bool false))))])
 (.seq (.reg [.op (some 12) (.load 6 true (.t 2)),
  .op (some 13) (.call (.v (.lit (.func (.func 89) #[] #[]))) [(.t 12)]),
  .op (some 11) (.mv (.t 13)),
  .op (some 14) (.ext (.t 11) 0),
  .op (some 15) (.ext (.t 11) 1),
  .op (some 7) (.mv (.t 14)),
  .op (some 8) (.mv (.t 15))])
 (.seq (.reg [.op (some 17) (.load 6 true (.t 3)),
  .op (some 18) (.call (.v (.lit (.func (.func 89) #[] #[]))) [(.t 17)]),
  .op (some 16) (.mv (.t 18)),
  .op (some 19) (.ext (.t 16) 0),
  .op (some 20) (.ext (.t 16) 1),
  .op (some 9) (.mv (.t 19)),
  .op (some 10) (.mv (.t 20))])
 (.seq (.reg [.op (some 21) (.mv (.t 7)),
  .op (some 22) (.mv (.t 9)),
  .op (some 23) (.mv (.t 8)),
  .op (some 24) (.mv (.t 23)),
  .grp 24 true [((some 25), (.mv (.t 10)))],
  .op (some 26) (.pick (.t 24) (.t 25) (.v (.lit (.bool false)))),
  .op (some 4) (.mv (.t 21)),
  .op (some 5) (.mv (.t 22)),
  .op (some 6) (.mv (.t 26))])
 .ret))))
def rs145 : List RR := [.tmp 4, .tmp 5, .tmp 6]
def cut145 : Nat → Nat := fun id => 0
theorem k145 : (Try.f145.body.bind fun c => comp Try.prog Try.f145.ntmps cut145 c) = some r145 := by kernel_rfl
theorem by145 {W0 : World} {σ : List Blk} {args : List AV} {K : Cont} (hn : args.length ≤ 27) (h : rW Try.prog W0 σ.length r145 (initFr args) σ (finP W0 rs145 σ.length K)) : ACall Try.prog W0 145 args σ K :=
  ACall.introR mixed Try.func145 (by kernel_rfl) k145 (by kernel_rfl) hn h
def r146 : RC := (.seq (.reg [.op (some 5) (.mv (.v (.lit (.int .i64 (0))))),
  .op (some 6) (.mv (.v (.lit (.int .i64 (0)))))])
 (.seq (.reg [.op (some 7) (.load 1 false (.t 2)),
  .op (some 8) (.mv (.t 0)),
  .op (some 9) (.mv (.t 1)),
  .op (some 10) (.call (.v (.lit (.func (.func 147) #[] #[]))) [(.t 7), (.t 8), (.t 9)]),
  .op (some 11) (.ext (.t 10) 0),
  .op (some 12) (.ext (.t 10) 1),
  .op (some 5) (.mv (.t 11)),
  .op (some 6) (.mv (.t 12))])
 .ret))
def rs146 : List RR := [.tmp 5, .tmp 6]
def cut146 : Nat → Nat := fun id => 0
theorem k146 : (Try.f146.body.bind fun c => comp Try.prog Try.f146.ntmps cut146 c) = some r146 := by kernel_rfl
theorem by146 {W0 : World} {σ : List Blk} {args : List AV} {K : Cont} (hn : args.length ≤ 13) (h : rW Try.prog W0 σ.length r146 (initFr args) σ (finP W0 rs146 σ.length K)) : ACall Try.prog W0 146 args σ K :=
  ACall.introR mixed Try.func146 (by kernel_rfl) k146 (by kernel_rfl) hn h
def r147 : RC := (.seq (.reg [.op (some 6) (.mv (.v (.lit (.int .i64 (0))))),
  .op (some 7) (.mv (.v (.lit (.int .i64 (0)))))])
 (.seq (.seq (.reg [.op (some 8) (.mv (.t 0)),
  .op (some 9) (.binI .rem (.t 8) (.v (.lit (.int .i64 (4))))),
  .op (some 10) (.mv (.v (.lit (.int .i64 (0)))))])
 (.block 0 (.loop (.seq (.reg [.op (some 11) (.binI .lss (.t 10) (.t 9))])
 (.seq (.cond (.t 11)
 .skip
 (.exit 0))
 (.seq (.block 1 (.reg [.op (some 12) (.mv (.t 2)),
  .op (some 13) (.binI .sub (.v (.lit (.int .i64 (5)))) (.t 12)),
  .op (some 14) (.mv (.t 1)),
  .op (some 1) (.mv (.t 13)),
  .op (some 2) (.mv (.t 14))]))
 (.reg [.op (some 15) (.binI .add (.t 10) (.v (.lit (.int .i64 (1))))),
  .op (some 10) (.mv (.t 15))])))))))
 (.seq (.seq (.reg [.op (some 16) (.mv (.t 0)),
  .op (some 17) (.binI .geq (.t 16) (.v (.lit (.int .i64 (4)))))])
 (.cond (.t 17)
 (.reg [.op (some 18) (.mv (.t 1)),
  .op (some 19) (.binI .sub (.v (.lit (.int .i64 (5)))) (.t 18)),
  .op (some 1) (.mv (.t 19))])
 .skip))
 (.seq (.reg [.op (some 20) (.mv (.t 1)),
  .op (some 21) (.mv (.t 2)),
  .op (some 6) (.mv (.t 20)),
  .op (some 7) (.mv (.t 21))])
 .ret))))
def rs147 : List RR := [.tmp 6, .tmp 7]
def cut147 : Nat → Nat := fun id => 0
theorem k147 : (Try.f147.body.bind fun c => comp Try.prog Try.f147.ntmps cut147 c) = some r147 := by kernel_rfl
theorem by147 {W0 : World} {σ : List Blk} {args : List AV} {K : Cont} (hn : args.length ≤ 22) (h : rW Try.prog W0 σ.length r147 (initFr args) σ (finP W0 rs147 σ.length K)) : ACall Try.prog W0 147 args σ K :=
  ACall.introR mixed Try.func147 (by kernel_rfl) k147 (by kernel_rfl) hn h
def r148 : RC := (.seq (.reg [.op (some 3) (.box 59 (.t 0)),
  .op (some 4) (.box 59 (.t 1)),
  .op (some 5) (.box 81 (.t 2)),
  .op (some 6) (.mv (.v (.lit (.bool false))))])
 (.seq (.reg [.op (some 7) (.load 6 true (.t 3)),
  .op (some 8) (.call (.v (.lit (.func (.func 107) #[] #[]))) [(.t 7)]),
  .op (some 9) (.mv (.t 8)),
  .grp 9 true [((some 10), (.load 6 true (.t 4))), ((some 11), (.call (.v (.lit (.func (.func 107) #[] #[]))) [(.t 10)]))],
  .op (some 12) (.pick (.t 9) (.t 11) (.v (.lit (.bool false)))),
  .op (some 13) (.mv (.t 12)),
  .grp 13 true [((some 14), (.load 2 true (.t 5))), ((some 15), (.call (.v (.lit (.func (.func 118) #[] #[]))) [(.t 14)]))],
  .op (some 16) (.pick (.t 13) (.t 15) (.v (.lit (.bool false)))),
  .op (some 6) (.mv (.t 16))])
 .ret))
def rs148 : List RR := [.tmp 6]
def cut148 : Nat → Nat := fun id => 0
theorem k148 : (Try.f148.body.bind fun c => comp Try.prog Try.f148.ntmps cut148 c) = some r148 := by kernel_rfl
theorem by148 {W0 : World} {σ : List Blk} {args : List AV} {K : Cont} (hn : args.length ≤ 17) (h : rW Try.prog W0 σ.length r148 (initFr args) σ (finP W0 rs148 σ.length K)) : ACall Try.prog W0 148 args σ K :=
  ACall.introR mixed Try.func148 (by kernel_rfl) k148 (by kernel_rfl) hn h
def r149 : RC := (.seq (.reg [.op (some 2) (.box 59 (.t 0)),
  .op (some 3) (.box 59 (.t 1)),
  .op (some 4) (.alloc 59 (List.replicate 6 (.lit (.int .i64 (0)))))])
 (.seq (.seq (.reg [.op (some 5) (.mv (.v (.lit (.int .i64 (0)))))])
 (.block 0 (.loop (.seq (.seq (.reg [.op (some 6) (.mv (.t 5)),
  .op (some 7) (.binI .lss (.t 6) (.v (.lit (.int .i64 (6)))))])
 (.cond (.t 7)
 .skip
 (.exit 0)))
 (.seq (.block 1 (.quiet [.op (some 10) (.mv (.t 5)),
  .op (some 11) (.mv (.t 5)),
  .op (some 12) (.faddr 0 (.t 2)),
  .op (some 13) (.iaddrA 6 1 (.t 12) (.t 11)),
  .op (some 14) (.load 1 false (.t 13)),
  .op (some 15) (.mv (.t 5)),
  .op (some 16) (.faddr 0 (.t 3)),
  .op (some 17) (.iaddrA 6 1 (.t 16) (.t 15)),
  .op (some 18) (.load 1 false (.t 17)),
  .op (some 19) (.binI .xor (.t 14) (.t 18)),
  .op (some 20) (.faddr 0 (.t 2)),
  .op (some 21) (.iaddrA 6 1 (.t 20) (.t 10))] [.op none (.store 1 (.t 21) (.t 19))]))
 (.reg [.op (some 8) (.mv (.t 5)),
  .op (some 9) (.binI .add (.t 8) (.v (.lit (.int .i64 (1))))),
  .op (some 5) (.mv (.t 9))]))))))
 (.seq (.reg [.op (some 22) (.load 6 true (.t 2)),
  .op none (.store 6 (.t 4) (.t 22))])
 .ret)))
def rs149 : List RR := [.cell 4 6 true]
def cut149 : Nat → Nat := fun id => if id = 4 then 24 else 0
theorem k149 : (Try.f149.body.bind fun c => comp Try.prog Try.f149.ntmps cut149 c) = some r149 := by kernel_rfl
theorem by149 {W0 : World} {σ : List Blk} {args : List AV} {K : Cont} (hn : args.length ≤ 23) (h : rW Try.prog W0 σ.length r149 (initFr args) σ (finP W0 rs149 σ.length K)) : ACall Try.prog W0 149 args σ K :=
  ACall.introR mixed Try.func149 (by kernel_rfl) k149 (by kernel_rfl) hn h
def r150 : RC := (.seq (.reg [.op (some 1) (.box 59 (.t 0)),
  .op (some 2) (.alloc 59 (List.replicate 6 (.lit (.int .i64 (0)))))])
 (.seq (.reg [.op (some 6) (.build (List.replicate 6 (.lit (.int .i64 (0)))) []),
  .op (some 3) (.alloc 59 (List.replicate 6 (.lit (.int .i64 (0))))),
  .op none (.store 6 (.t 3) (.t 6))])
 (.seq (.seq (.reg [.op (some 4) (.mv (.v (.lit (.int .i64 (0)))))])
 (.block 0 (.loop (.seq (.seq (.reg [.op (some 7) (.mv (.t 4)),
  .op (some 8) (.binI .lss (.t 7) (.v (.lit (.int .i64 (6)))))])
 (.cond (.t 8)
 .skip
 (.exit 0)))
 (.seq (.block 1 (.seq (.reg [.op (some 5) (.mv (.v (.lit (.int .i64 (0)))))])
 (.block 2 (.loop (.seq (.seq (.reg [.op (some 11) (.mv (.t 5)),
  .op (some 12) (.binI .lss (.t 11) (.v (.lit (.int .i64 (6)))))])
 (.cond (.t 12)
 .skip
 (.exit 2)))
 (.seq (.block 3 (.seq (.reg [.op (some 15) (.load 6 true (.t 1)),
  .op (some 16) (.mv (.t 5)),
  .op (some 17) (.mv (.t 4)),
  .op (some 18) (.call (.v (.lit (.func (.func 96) #[] #[]))) [(.t 15), (.t 16), (.t 17)])])
 (.cond (.t 18)
 (.reg [.op (some 19) (.load 6 true (.t 3)),
  .op (some 20) (.mv (.t 4)),
  .op (some 21) (.binI .sub (.v (.lit (.int .i64 (5)))) (.t 20)),
  .op (some 22) (.mv (.t 5)),
  .op (some 23) (.call (.v (.lit (.func (.func 144) #[] #[]))) [(.t 19), (.t 21), (.t 22)]),
  .op none (.store 6 (.t 3) (.t 23))])
 .skip)))
 (.reg [.op (some 13) (.mv (.t 5)),
  .op (some 14) (.binI .add (.t 13) (.v (.lit (.int .i64 (1))))),
  .op (some 5) (.mv (.t 14))])))))))
 (.reg [.op (some 9) (.mv (.t 4)),
  .op (some 10) (.binI .add (.t 9) (.v (.lit (.int .i64 (1))))),
  .op (some 4) (.mv (.t 10))]))))))
 (.seq (.reg [.op (some 24) (.load 6 true (.t 3)),
  .op none (.store 6 (.t 2) (.t 24))])
 .ret))))
def rs150 : List RR := [.cell 2 6 true]
def cut150 : Nat → Nat := fun id => 0
theorem k150 : (Try.f150.body.bind fun c => comp Try.prog Try.f150.ntmps cut150 c) = some r150 := by kernel_rfl
theorem by150 {W0 : World} {σ : List Blk} {args : List AV} {K : Cont} (hn : args.length ≤ 25) (h : rW Try.prog W0 σ.length r150 (initFr args) σ (finP W0 rs150 σ.length K)) : ACall Try.prog W0 150 args σ K :=
  ACall.introR mixed Try.func150 (by kernel_rfl) k150 (by kernel_rfl) hn h
def r151 : RC := (.seq (.reg [.op (some 1) (.box 59 (.t 0)),
  .op (some 2) (.alloc 59 (List.replicate 6 (.lit (.int .i64 (0)))))])
 (.seq (.reg [.op (some 6) (.build (List.replicate 6 (.lit (.int .i64 (0)))) []),
  .op (some 3) (.alloc 59 (List.replicate 6 (.lit (.int .i64 (0))))),
  .op none (.store 6 (.t 3) (.t 6))])
 (.seq (.seq (.reg [.op (some 4) (.mv (.v (.lit (.int .i64 (0)))))])
 (.block 0 (.loop (.seq (.seq (.reg [.op (some 7) (.mv (.t 4)),
  .op (some 8) (.binI .lss (.t 7) (.v (.lit (.int .i64 (6)))))])
 (.cond (.t 8)
 .skip
 (.exit 0)))
 (.seq (.block 1 (.seq (.reg [.op (some 5) (.mv (.v (.lit (.int .i64 (0)))))])
 (.block 2 (.loop (.seq (.seq (.reg [.op (some 11) (.mv (.t 5)),
  .op (some 12) (.binI .lss (.t 11) (.v (.lit (.int .i64 (6)))))])
 (.cond (.t 12)
 .skip
 (.exit 2)))
 (.seq (.block 3 (.seq (.reg [.op (some 15) (.load 6 true (.t 1)),
  .op (some 16) (.mv (.t 5)),
  .op (some 17) (.mv (.t 4)),
  .op (some 18) (.call (.v (.lit (.func (.func 96) #[] #[]))) [(.t 15), (.t 16), (.t 17)])])
 (.cond (.t 18)
 (.reg [.op (some 19) (.load 6 true (.t 3)),
  .op (some 20) (.mv (.t 5)),
  .op (some 21) (.binI .sub (.v (.lit (.int .i64 (5)))) (.t 20)),
  .op (some 22) (.mv (.t 4)),
  .op (some 23) (.call (.v (.lit (.func (.func 144) #[] #[]))) [(.t 19), (.t 21), (.t 22)]),
  .op none (.store 6 (.t 3) (.t 23))])
 .skip)))
 (.reg [.op (some 13) (.mv (.t 5)),
  .op (some 14) (.binI .add (.t 13) (.v (.lit (.int .i64 (1))))),
  .op (some 5) (.mv (.t 14))])))))))
 (.reg [.op (some 9) (.mv (.t 4)),
  .op (some 10) (.binI .add (.t 9) (.v (.lit (.int .i64 (1))))),
  .op (some 4) (.mv (.t 10))]))))))
 (.seq (.reg [.op (some 24) (.load 6 true (.t 3)),
  .op none (.store 6 (.t 2) (.t 24))])
 .ret))))
def rs151 : List RR := [.cell 2 6 true]
def cut151 : Nat → Nat := fun id => 0
theorem k151 : (Try.f151.body.bind fun c => comp Try.prog Try.f151.ntmps cut151 c) = some r151 := by kernel_rfl
theorem by151 {W0 : World} {σ : List Blk} {args : List AV} {K : Cont} (hn : args.length ≤ 25) (h : rW Try.prog W0 σ.length r151 (initFr args) σ (finP W0 rs151 σ.length K)) : ACall Try.prog W0 151 args σ K :=
  ACall.introR mixed Try.func151 (by kernel_rfl) k151 (by kernel_rfl) hn h

end Go.Proofs.Ythncpkdhcfaflaa
