/- The resolved code of the functions that are reached, and that it stands for the program's own. -/
import Derived.Test.YtjodbhpknbgieaaAbsN
import Derived.Test.YtjodbhpknbgieaaProg
set_option linter.unusedVariables false
namespace Go.Proofs.Ytjodbhpknbgieaa
open Go Go.RowKit Go.Proofs.Ytjodbhpknbgieaa.Abs
theorem mixed : Try.prog.follows .mixedOrders = true := by kernel_rfl
def r2 : RC := (.reg [.op (some 0) (.call (.v (.lit (.func (.func 1) #[] #[]))) [])])
def rs2 : List RR := []
def cut2 : Nat → Nat := fun id => 0
theorem k2 : (Try.f2.body.bind fun c => comp Try.prog Try.f2.ntmps cut2 c) = some r2 := by kernel_rfl
theorem by2 {W0 : World} {σ : List Blk} {args : List AV} {K : Cont} (hn : args.length ≤ 1) (h : rW Try.prog W0 σ.length r2 (initFr args) σ (finP W0 rs2 σ.length K)) : ACall Try.prog W0 2 args σ K :=
  ACall.introR mixed Try.func2 (by kernel_rfl) k2 (by kernel_rfl) hn h
def r3 : RC := (.seq (.reg [.op (some 1) (.box 26 (.t 0)),
  .op (some 2) (.mv (.v (.lit (.bool false))))])
 (.seq (.reg [.op (some 5) (.load 14 true (.t 1)),
  .op (some 6) (.call (.v (.lit (.func (.func 11) #[] #[]))) [(.t 5)]),
  .op (some 7) (.call (.v (.lit (.func (.func 10) #[] #[]))) [(.t 6)]),
  .op (some 3) (.mv (.t 7))])
 (.seq (.reg [.op (some 8) (.load 14 true (.t 1)),
  .op (some 9) (.call (.v (.lit (.func (.func 11) #[] #[]))) [(.t 8)]),
  .op (some 10) (.call (.v (.lit (.func (.func 12) #[] #[]))) [(.t 9)]),
  .op (some 4) (.mv (.t 10))])
 (.seq (.seq (.reg [.op (some 11) (.mv (.t 4)),
  .op (some 12) (.mv (.t 3)),
  .op (some 13) (.binB true (.t 11) (.t 12))])
 (.cond (.t 13)
 (.seq (.reg [.op (some 2) (.mv (.v (.lit (.bool false))))])
 .ret)
 .skip))
 (.seq (.reg [.op (some 2) (.mv (.v (.lit (.bool true))))])
 .ret)))))
def rs3 : List RR := [.tmp 2]
def cut3 : Nat → Nat := fun id => 0
theorem k3 : (Try.f3.body.bind fun c => comp Try.prog Try.f3.ntmps cut3 c) = some r3 := by kernel_rfl
theorem by3 {W0 : World} {σ : List Blk} {args : List AV} {K : Cont} (hn : args.length ≤ 14) (h : rW Try.prog W0 σ.length r3 (initFr args) σ (finP W0 rs3 σ.length K)) : ACall Try.prog W0 3 args σ K :=
  ACall.introR mixed Try.func3 (by kernel_rfl) k3 (by kernel_rfl) hn h
def r4 : RC := (.seq (.reg [.op (some 2) (.box 24 (.t 0)),
  .op (some 3) (.box 24 (.t 1)),
  .op (some 4) (.mv (.v (.lit (.bool false))))])
 (.seq (.draw [((some 10), (.load 6 true (.t 2))), ((some 11), (.call (.v (.lit (.func (.func 14) #[] #[]))) [(.t 10)])), ((some 12), (.load 6 true (.t 3))), ((some 13), (.call (.v (.lit (.func (.func 14) #[] #[]))) [(.t 12)])), ((some 14), (.call (.v (.lit (.func (.func 13) #[] #[]))) [(.t 11), (.t 13)])), ((some 9), (.mv (.t 14))), ((some 15), (.ext (.t 9) 0)), ((some 16), (.ext (.t 9) 1))] [((some 5), (.alloc 30 (List.replicate 14 (.lit (.int .i64 (0)))))), (none, (.store 14 (.t 5) (.t 15))), ((some 6), (.mv (.t 16)))])
 (.seq (.draw [((some 18), (.load 6 true (.t 2))), ((some 19), (.call (.v (.lit (.func (.func 14) #[] #[]))) [(.t 18)])), ((some 20), (.load 6 true (.t 3))), ((some 21), (.call (.v (.lit (.func (.func 14) #[] #[]))) [(.t 20)])), ((some 22), (.call (.v (.lit (.func (.func 15) #[] #[]))) [(.t 19), (.t 21)])), ((some 17), (.mv (.t 22))), ((some 23), (.ext (.t 17) 0)), ((some 24), (.ext (.t 17) 1))] [((some 7), (.alloc 30 (List.replicate 14 (.lit (.int .i64 (0)))))), (none, (.store 14 (.t 7) (.t 23))), ((some 8), (.mv (.t 24)))])
 (.seq (.seq (.reg [.op (some 25) (.load 14 true (.t 7)),
  .op (some 26) (.load 14 true (.t 5)),
  .op (some 27) (.call (.v (.lit (.func (.func 16) #[] #[]))) [(.t 25), (.t 26)]),
  .op (some 28) (.un .not (.t 27)),
  .op (some 29) (.mv (.t 28)),
  .grp 29 false [((some 30), (.mv (.t 8))), ((some 31), (.mv (.t 6))), ((some 32), (.binB true (.t 30) (.t 31)))],
  .op (some 33) (.pick (.t 29) (.v (.lit (.bool true))) (.t 32))])
 (.cond (.t 33)
 (.seq (.reg [.op (some 4) (.mv (.v (.lit (.bool false))))])
 .ret)
 .skip))
 (.seq (.reg [.op (some 4) (.mv (.v (.lit (.bool true))))])
 .ret)))))
def rs4 : List RR := [.tmp 4]
def cut4 : Nat → Nat := fun id => if id = 1 then 17 else if id = 2 then 17 else 0
theorem k4 : (Try.f4.body.bind fun c => comp Try.prog Try.f4.ntmps cut4 c) = some r4 := by kernel_rfl
theorem by4 {W0 : World} {σ : List Blk} {args : List AV} {K : Cont} (hn : args.length ≤ 34) (h : rW Try.prog W0 σ.length r4 (initFr args) σ (finP W0 rs4 σ.length K)) : ACall Try.prog W0 4 args σ K :=
  ACall.introR mixed Try.func4 (by kernel_rfl) k4 (by kernel_rfl) hn h
def r5 : RC := (.seq (.reg [.op (some 1) (.box 26 (.t 0)),
  .op (some 2) (.mv (.v (.lit (.bool false))))])
 (.seq (.reg [.op (some 8) (.load 14 true (.t 1)),
  .op (some 9) (.call (.v (.lit (.func (.func 11) #[] #[]))) [(.t 8)]),
  .op (some 10) (.call (.v (.lit (.func (.func 17) #[] #[]))) [(.t 9)]),
  .op (some 7) (.mv (.t 10)),
  .op (some 11) (.ext (.t 7) 0),
  .op (some 12) (.ext (.t 7) 1),
  .op (some 3) (.alloc 41 [(.lit (.int .i64 (0))), (.lit (.int .i64 (0))), (.lit (.int .i64 (0))), (.lit (.int .i64 (0))), (.lit (.int .i64 (0))), (.lit (.int .i64 (0))), (.lit (.int .i64 (0))), (.lit (.int .i64 (0))), (.lit (.int .i64 (0))), (.lit (.int .i64 (0))), (.lit (.int .i64 (0))), (.lit (.int .i64 (0))), (.lit (.int .i64 (0))), (.lit (.int .i64 (0))), (.lit (.string ⟨#[]⟩)), (.lit (.string ⟨#[]⟩)), (.lit (.int .i64 (0)))]),
  .op none (.store 17 (.t 3) (.t 11)),
  .op (some 4) (.mv (.t 12))])
 (.seq (.reg [.op (some 14) (.load 14 true (.t 1)),
  .op (some 15) (.call (.v (.lit (.func (.func 11) #[] #[]))) [(.t 14)]),
  .op (some 16) (.call (.v (.lit (.func (.func 18) #[] #[]))) [(.t 15)]),
  .op (some 13) (.mv (.t 16)),
  .op (some 17) (.ext (.t 13) 0),
  .op (some 18) (.ext (.t 13) 1),
  .op (some 5) (.alloc 41 [(.lit (.int .i64 (0))), (.lit (.int .i64 (0))), (.lit (.int .i64 (0))), (.lit (.int .i64 (0))), (.lit (.int .i64 (0))), (.lit (.int .i64 (0))), (.lit (.int .i64 (0))), (.lit (.int .i64 (0))), (.lit (.int .i64 (0))), (.lit (.int .i64 (0))), (.lit (.int .i64 (0))), (.lit (.int .i64 (0))), (.lit (.int .i64 (0))), (.lit (.int .i64 (0))), (.lit (.string ⟨#[]⟩)), (.lit (.string ⟨#[]⟩)), (.lit (.int .i64 (0)))]),
  .op none (.store 17 (.t 5) (.t 17)),
  .op (some 6) (.mv (.t 18))])
 (.seq (.seq (.reg [.op (some 19) (.load 17 true (.t 5)),
  .op (some 20) (.load 17 true (.t 3)),
  .op (some 21) (.call (.v (.lit (.func (.func 19) #[] #[]))) [(.t 19), (.t 20)]),
  .op (some 22) (.un .not (.t 21)),
  .op (some 23) (.mv (.t 22)),
  .grp 23 false [((some 24), (.mv (.t 6))), ((some 25), (.mv (.t 4))), ((some 26), (.binB true (.t 24) (.t 25)))],
  .op (some 27) (.pick (.t 23) (.v (.lit (.bool true))) (.t 26))])
 (.cond (.t 27)
 (.seq (.reg [.op (some 2) (.mv (.v (.lit (.bool false))))])
 .ret)
 .skip))
 (.seq (.reg [.op (some 2) (.mv (.v (.lit (.bool true))))])
 .ret)))))
def rs5 : List RR := [.tmp 2]
def cut5 : Nat → Nat := fun id => 0
theorem k5 : (Try.f5.body.bind fun c => comp Try.prog Try.f5.ntmps cut5 c) = some r5 := by kernel_rfl
theorem by5 {W0 : World} {σ : List Blk} {args : List AV} {K : Cont} (hn : args.length ≤ 28) (h : rW Try.prog W0 σ.length r5 (initFr args) σ (finP W0 rs5 σ.length K)) : ACall Try.prog W0 5 args σ K :=
  ACall.introR mixed Try.func5 (by kernel_rfl) k5 (by kernel_rfl) hn h
def r6 : RC := (.seq (.reg [.op (some 1) (.box 26 (.t 0)),
  .op (some 2) (.mv (.v (.lit (.bool false))))])
 (.seq (.reg [.op (some 8) (.load 14 true (.t 1)),
  .op (some 9) (.call (.v (.lit (.func (.func 11) #[] #[]))) [(.t 8)]),
  .op (some 10) (.call (.v (.lit (.func (.func 20) #[] #[]))) [(.t 9)]),
  .op (some 7) (.mv (.t 10)),
  .op (some 11) (.ext (.t 7) 0),
  .op (some 12) (.ext (.t 7) 1),
  .op (some 3) (.mv (.t 11)),
  .op (some 4) (.mv (.t 12))])
 (.seq (.reg [.op (some 14) (.load 14 true (.t 1)),
  .op (some 15) (.call (.v (.lit (.func (.func 11) #[] #[]))) [(.t 14)]),
  .op (some 16) (.call (.v (.lit (.func (.func 21) #[] #[]))) [(.t 15)]),
  .op (some 13) (.mv (.t 16)),
  .op (some 17) (.ext (.t 13) 0),
  .op (some 18) (.ext (.t 13) 1),
  .op (some 5) (.mv (.t 17)),
  .op (some 6) (.mv (.t 18))])
 (.seq (.seq (.reg [.op (some 19) (.mv (.t 5)),
  .op (some 20) (.mv (.t 3)),
  .op (some 21) (.binI .neq (.t 19) (.t 20)),
  .op (some 22) (.mv (.t 21)),
  .grp 22 false [((some 23), (.mv (.t 6))), ((some 24), (.mv (.t 4))), ((some 25), (.binB true (.t 23) (.t 24)))],
  .op (some 26) (.pick (.t 22) (.v (.lit (.bool true))) (.t 25))])
 (.cond (.t 26)
 (.seq (.reg [.op (some 2) (.mv (.v (.lit (.bool false))))])
 .ret)
 .skip))
 (.seq (.reg [.op (some 2) (.mv (.v (.lit (.bool true))))])
 .ret)))))
def rs6 : List RR := [.tmp 2]
def cut6 : Nat → Nat := fun id => 0
theorem k6 : (Try.f6.body.bind fun c => comp Try.prog Try.f6.ntmps cut6 c) = some r6 := by kernel_rfl
theorem by6 {W0 : World} {σ : List Blk} {args : List AV} {K : Cont} (hn : args.length ≤ 27) (h : rW Try.prog W0 σ.length r6 (initFr args) σ (finP W0 rs6 σ.length K)) : ACall Try.prog W0 6 args σ K :=
  ACall.introR mixed Try.func6 (by kernel_rfl) k6 (by kernel_rfl) hn h
def r7 : RC := (.seq (.reg [.op (some 1) (.box 48 (.t 0)),
  .op (some 2) (.mv (.v (.lit (.bool false))))])
 (.seq (.reg [.op (some 3) (.mv (.v (.lit (.int .i64 (1048576)))))])
 (.seq (.reg [.op (some 6) (.load 2 true (.t 1)),
  .op (some 7) (.mv (.t 3)),
  .op (some 8) (.call (.v (.lit (.func (.func 22) #[] #[]))) [(.t 6), (.t 7)]),
  .op (some 3) (.mv (.t 8))])
 (.seq (.seq (.reg [.op (some 9) (.mv (.t 3)),
  .op (some 10) (.binI .lss (.t 9) (.v (.lit (.int .i64 (0)))))])
 (.cond (.t 10)
 (.seq (.reg [.op (some 2) (.mv (.v (.lit (.bool true))))])
 .ret)
 .skip))
 (.seq (.reg [.op (some 11) (.load 2 true (.t 1)),
  .op (some 12) (.call (.v (.lit (.func (.func 24) #[] #[]))) [(.t 11)]),
  .op (some 13) (.call (.v (.lit (.func (.func 23) #[] #[]))) [(.t 12)]),
  .op (some 4) (.mv (.t 13))])
 (.seq (.reg [.op (some 14) (.load 2 true (.t 1)),
  .op (some 15) (.call (.v (.lit (.func (.func 24) #[] #[]))) [(.t 14)]),
  .op (some 16) (.call (.v (.lit (.func (.func 25) #[] #[]))) [(.t 15)]),
  .op (some 5) (.mv (.t 16))])
 (.seq (.seq (.reg [.op (some 17) (.mv (.t 5)),
  .op (some 18) (.mv (.t 4)),
  .op (some 19) (.binB true (.t 17) (.t 18))])
 (.cond (.t 19)
 (.seq (.reg [.op (some 2) (.mv (.v (.lit (.bool false))))])
 .ret)
 .skip))
 (.seq (.reg [.op (some 2) (.mv (.v (.lit (.bool true))))])
 .ret))))))))
def rs7 : List RR := [.tmp 2]
def cut7 : Nat → Nat := fun id => 0
theorem k7 : (Try.f7.body.bind fun c => comp Try.prog Try.f7.ntmps cut7 c) = some r7 := by kernel_rfl
theorem by7 {W0 : World} {σ : List Blk} {args : List AV} {K : Cont} (hn : args.length ≤ 20) (h : rW Try.prog W0 σ.length r7 (initFr args) σ (finP W0 rs7 σ.length K)) : ACall Try.prog W0 7 args σ K :=
  ACall.introR mixed Try.func7 (by kernel_rfl) k7 (by kernel_rfl) hn h
def r8 : RC := (.seq (.reg [.op (some 1) (.box 57 (.t 0)),
  .op (some 2) (.mv (.v (.lit (.bool false))))])
 (.seq (.reg [.op (some 3) (.mv (.v (.lit (.int .i64 (1048576)))))])
 (.seq (.reg [.op (some 7) (.load 8 true (.t 1)),
  .op (some 8) (.mv (.t 3)),
  .op (some 9) (.call (.v (.lit (.func (.func 26) #[] #[]))) [(.t 7), (.t 8)]),
  .op (some 3) (.mv (.t 9))])
 (.seq (.seq (.reg [.op (some 10) (.mv (.t 3)),
  .op (some 11) (.binI .lss (.t 10) (.v (.lit (.int .i64 (0)))))])
 (.cond (.t 11)
 (.seq (.reg [.op (some 2) (.mv (.v (.lit (.bool true))))])
 .ret)
 .skip))
 (.seq (.reg [.op (some 12) (.load 8 true (.t 1)),
  .op (some 13) (.call (.v (.lit (.func (.func 28) #[] #[]))) [(.t 12)]),
  .op (some 14) (.call (.v (.lit (.func (.func 27) #[] #[]))) [(.t 13)]),
  .op (some 4) (.mv (.t 14))])
 (.seq (.reg [.op (some 15) (.load 8 true (.t 1)),
  .op (some 16) (.call (.v (.lit (.func (.func 28) #[] #[]))) [(.t 15)]),
  .op (some 5) (.alloc 63 [(.lit (.int .i64 (0))), (.lit (.int .i64 (0))), (.lit (.int .i64 (0))), (.lit (.int .i64 (0))), (.lit (.int .i64 (0))), (.lit (.int .i64 (0))), (.lit (.slice none 0 0)), (.lit (.slice none 0 0))]),
  .op none (.store 8 (.t 5) (.t 16))])
 (.seq (.reg [.op (some 17) (.load 8 true (.t 5)),
  .op (some 18) (.call (.v (.lit (.func (.func 29) #[] #[]))) [(.t 17)]),
  .op (some 6) (.mv (.t 18))])
 (.seq (.seq (.reg [.op (some 19) (.mv (.t 6)),
  .op (some 20) (.mv (.t 4)),
  .op (some 21) (.binB true (.t 19) (.t 20))])
 (.cond (.t 21)
 (.seq (.reg [.op (some 2) (.mv (.v (.lit (.bool false))))])
 .ret)
 .skip))
 (.seq (.seq (.quiet [.op (some 22) (.load 8 true (.t 5)),
  .op (some 23) (.load 8 true (.t 1)),
  .op (some 24) (.call (.v (.lit (.func (.func 28) #[] #[]))) [(.t 23)]),
  .op (some 25) (.call (.v (.lit (.func (.func 30) #[] #[]))) [(.t 22), (.t 24)]),
  .op (some 26) (.un .not (.t 25))] [])
 (.cond (.t 26)
 (.seq (.reg [.op (some 2) (.mv (.v (.lit (.bool false))))])
 .ret)
 .skip))
 (.seq (.reg [.op (some 2) (.mv (.v (.lit (.bool true))))])
 .ret))))))))))
def rs8 : List RR := [.tmp 2]
def cut8 : Nat → Nat := fun id => 0
theorem k8 : (Try.f8.body.bind fun c => comp Try.prog Try.f8.ntmps cut8 c) = some r8 := by kernel_rfl
theorem by8 {W0 : World} {σ : List Blk} {args : List AV} {K : Cont} (hn : args.length ≤ 27) (h : rW Try.prog W0 σ.length r8 (initFr args) σ (finP W0 rs8 σ.length K)) : ACall Try.prog W0 8 args σ K :=
  ACall.introR mixed Try.func8 (by kernel_rfl) k8 (by kernel_rfl) hn h
def r9 : RC := (.seq (.reg [.op (some 2) (.mv (.v (.lit (.bool false))))])
 (.seq (.reg [.op (some 3) (.mv (.v (.lit (.int .i64 (1048576)))))])
 (.seq (.reg [.op (some 14) (.mv (.t 0)),
  .op (some 15) (.mv (.t 3)),
  .op (some 16) (.call (.v (.lit (.func (.func 31) #[] #[]))) [(.t 14), (.t 15)]),
  .op (some 3) (.mv (.t 16))])
 (.seq (.seq (.reg [.op (some 17) (.mv (.t 3)),
  .op (some 18) (.binI .lss (.t 17) (.v (.lit (.int .i64 (0)))))])
 (.cond (.t 18)
 (.seq (.reg [.op (some 2) (.mv (.v (.lit (.bool true))))])
 .ret)
 .skip))
 (.seq (.reg [.op (some 20) (.mv (.t 0)),
  .op (some 21) (.call (.v (.lit (.func (.func 33) #[] #[]))) [(.t 20)]),
  .op (some 22) (.call (.v (.lit (.func (.func 32) #[] #[]))) [(.t 21)]),
  .op (some 19) (.mv (.t 22)),
  .op (some 23) (.ext (.t 19) 0),
  .op (some 24) (.ext (.t 19) 1),
  .op (some 4) (.mv (.t 23)),
  .op (some 5) (.mv (.t 24))])
 (.seq (.reg [.op (some 25) (.mv (.t 0)),
  .op (some 26) (.call (.v (.lit (.func (.func 33) #[] #[]))) [(.t 25)]),
  .op (some 6) (.mv (.t 26))])
 (.seq (.reg [.op (some 28) (.mv (.t 6)),
  .op (some 29) (.call (.v (.lit (.func (.func 34) #[] #[]))) [(.t 28)]),
  .op (some 27) (.mv (.t 29)),
  .op (some 30) (.ext (.t 27) 0),
  .op (some 31) (.ext (.t 27) 1),
  .op (some 7) (.mv (.t 30)),
  .op (some 8) (.mv (.t 31))])
 (.seq (.seq (.reg [.op (some 32) (.mv (.t 7)),
  .op (some 33) (.mv (.t 4)),
  .op (some 34) (.call (.v (.lit (.func (.func 35) #[] #[]))) [(.t 32), (.t 33)]),
  .op (some 35) (.un .not (.t 34)),
  .op (some 36) (.mv (.t 35)),
  .grp 36 false [((some 37), (.mv (.t 8))), ((some 38), (.mv (.t 5))), ((some 39), (.binB true (.t 37) (.t 38)))],
  .op (some 40) (.pick (.t 36) (.v (.lit (.bool true))) (.t 39))])
 (.cond (.t 40)
 (.seq (.reg [.op (some 2) (.mv (.v (.lit (.bool false))))])
 .ret)
 .skip))
 (.seq (.seq (.reg [.op (some 41) (.mv (.t 6)),
  .op (some 42) (.mv (.t 0)),
  .op (some 43) (.call (.v (.lit (.func (.func 33) #[] #[]))) [(.t 42)]),
  .op (some 44) (.call (.v (.lit (.func (.func 36) #[] #[]))) [(.t 41), (.t 43)]),
  .op (some 45) (.un .not (.t 44))])
 (.cond (.t 45)
 (.seq (.reg [.op (some 2) (.mv (.v (.lit (.bool false))))])
 .ret)
 .skip))
 (.seq (.reg [.op (some 9) (.mv (.v (.lit (.int .i64 (1)))))])
 (.seq (.reg [.op (some 46) (.mv (.t 6)),
  .op (some 47) (.mv (.t 9)),
  .op (some 48) (.call (.v (.lit (.func (.func 37) #[] #[]))) [(.t 46), (.t 47)]),
  .op (some 9) (.mv (.t 48))])
 (.seq (.seq (.reg [.op (some 49) (.mv (.t 9)),
  .op (some 50) (.binI .lss (.t 49) (.v (.lit (.int .i64 (0))))),
  .op (some 51) (.mv (.t 50)),
  .grp 51 false [((some 52), (.mv (.t 7))), ((some 53), (.mv (.t 4))), ((some 54), (.call (.v (.lit (.func (.func 35) #[] #[]))) [(.t 52), (.t 53)])), ((some 55), (.un .not (.t 54)))],
  .op (some 56) (.pick (.t 51) (.v (.lit (.bool true))) (.t 55)),
  .op (some 57) (.mv (.t 56)),
  .grp 57 false [((some 58), (.mv (.t 8))), ((some 59), (.mv (.t 5))), ((some 60), (.binB true (.t 58) (.t 59)))],
  .op (some 61) (.pick (.t 57) (.v (.lit (.bool true))) (.t 60))])
 (.cond (.t 61)
 (.seq (.reg [.op (some 2) (.mv (.v (.lit (.bool false))))])
 .ret)
 .skip))
 (.seq (.reg [.op (some 10) (.mv (.v (.lit (.int .i64 (1)))))])
 (.seq (.reg [.op (some 62) (.mv (.t 7)),
  .op (some 63) (.mv (.t 10)),
  .op (some 64) (.call (.v (.lit (.func (.func 38) #[] #[]))) [(.t 62), (.t 63)]),
  .op (some 10) (.mv (.t 64))])
 (.seq (.reg [.op (some 11) (.mv (.v (.lit (.int .i64 (1)))))])
 (.seq (.reg [.op (some 65) (.mv (.t 7)),
  .op (some 66) (.mv (.t 11)),
  .op (some 67) (.call (.v (.lit (.func (.func 39) #[] #[]))) [(.t 65), (.t 66)]),
  .op (some 11) (.mv (.t 67))])
 (.seq (.seq (.reg [.op (some 68) (.mv (.t 11)),
  .op (some 69) (.binI .lss (.t 68) (.v (.lit (.int .i64 (0)))))])
 (.cond (.t 69)
 (.seq (.reg [.op (some 2) (.mv (.v (.lit (.bool false))))])
 .ret)
 .skip))
 (.seq (.seq (.reg [.op (some 70) (.mv (.t 11)),
  .op (some 71) (.mv (.t 10)),
  .op (some 72) (.binI .neq (.t 70) (.t 71))])
 (.cond (.t 72)
 (.seq (.reg [.op (some 2) (.mv (.v (.lit (.bool false))))])
 .ret)
 .skip))
 (.seq (.reg [.op (some 74) (.mv (.t 0)),
  .op (some 75) (.call (.v (.lit (.func (.func 33) #[] #[]))) [(.t 74)]),
  .op (some 76) (.call (.v (.lit (.func (.func 34) #[] #[]))) [(.t 75)]),
  .op (some 73) (.mv (.t 76)),
  .op (some 77) (.ext (.t 73) 0),
  .op (some 78) (.ext (.t 73) 1),
  .op (some 12) (.mv (.t 77)),
  .op (some 13) (.mv (.t 78))])
 (.seq (.seq (.reg [.op (some 79) (.mv (.t 12)),
  .op (some 80) (.mv (.t 4)),
  .op (some 81) (.call (.v (.lit (.func (.func 35) #[] #[]))) [(.t 79), (.t 80)]),
  .op (some 82) (.un .not (.t 81)),
  .op (some 83) (.mv (.t 82)),
  .grp 83 false [((some 84), (.mv (.t 13))), ((some 85), (.mv (.t 5))), ((some 86), (.binB true (.t 84) (.t 85)))],
  .op (some 87) (.pick (.t 83) (.v (.lit (.bool true))) (.t 86))])
 (.cond (.t 87)
 (.seq (.reg [.op (some 2) (.mv (.v (.lit (.bool false))))])
 .ret)
 .skip))
 (.seq (.reg [.op (some 11) (.mv (.v (.lit (.int .i64 (1)))))])
 (.seq (.reg [.op (some 88) (.mv (.t 7)),
  .op (some 89) (.mv (.t 11)),
  .op (some 90) (.call (.v (.lit (.func (.func 39) #[] #[]))) [(.t 88), (.t 89)]),
  .op (some 11) (.mv (.t 90))])
 (.seq (.seq (.reg [.op (some 91) (.mv (.t 11)),
  .op (some 92) (.binI .lss (.t 91) (.v (.lit (.int .i64 (0)))))])
 (.cond (.t 92)
 (.seq (.reg [.op (some 2) (.mv (.v (.lit (.bool false))))])
 .ret)
 .skip))
 (.seq (.seq (.reg [.op (some 93) (.mv (.t 11)),
  .op (some 94) (.mv (.t 10)),
  .op (some 95) (.binI .neq (.t 93) (.t 94))])
 (.cond (.t 95)
 (.seq (.reg [.op (some 2) (.mv (.v (.lit (.bool false))))])
 .ret)
 .skip))
 (.seq (.reg [.op (some 2) (.mv (.v (.lit (.bool true))))])
 .ret)))))))))))))))))))))))))
def rs9 : List RR := [.tmp 2]
def cut9 : Nat → Nat := fun id => 0
theorem k9 : (Try.f9.body.bind fun c => comp Try.prog Try.f9.ntmps cut9 c) = some r9 := by kernel_rfl
theorem by9 {W0 : World} {σ : List Blk} {args : List AV} {K : Cont} (hn : args.length ≤ 96) (h : rW Try.prog W0 σ.length r9 (initFr args) σ (finP W0 rs9 σ.length K)) : ACall Try.prog W0 9 args σ K :=
  ACall.introR mixed Try.func9 (by kernel_rfl) k9 (by kernel_rfl) hn h
def r10 : RC := (.seq (.reg [.op (some 1) (.box 30 (.t 0)),
  .op (some 2) (.mv (.v (.lit (.bool false))))])
 (.seq (.reg [.op (some 3) (.load 14 true (.t 1)),
  .op (some 4) (.call (.v (.lit (.func (.func 40) #[] #[]))) [(.t 3)]),
  .op (some 2) (.mv (.t 4))])
 .ret))
def rs10 : List RR := [.tmp 2]
def cut10 : Nat → Nat := fun id => 0
theorem k10 : (Try.f10.body.bind fun c => comp Try.prog Try.f10.ntmps cut10 c) = some r10 := by kernel_rfl
theorem by10 {W0 : World} {σ : List Blk} {args : List AV} {K : Cont} (hn : args.length ≤ 5) (h : rW Try.prog W0 σ.length r10 (initFr args) σ (finP W0 rs10 σ.length K)) : ACall Try.prog W0 10 args σ K :=
  ACall.introR mixed Try.func10 (by kernel_rfl) k10 (by kernel_rfl) hn h
def r11 : RC := (.seq (.reg [.op (some 1) (.box 26 (.t 0)),
  .op (some 2) (.alloc 30 (List.replicate 14 (.lit (.int .i64 (0)))))])
 (.seq (.reg [.op (some 3) (.alloc 30 (List.replicate 14 (.lit (.int .i64 (0)))))])
 (.seq (.reg [.op (some 4) (.faddr 0 (.t 1)),
  .op (some 5) (.load 6 true (.t 4)),
  .op (some 6) (.call (.v (.lit (.func (.func 14) #[] #[]))) [(.t 5)]),
  .op (some 7) (.faddr 0 (.t 3)),
  .op none (.store 6 (.t 7) (.t 6))])
 (.seq (.reg [.op (some 8) (.faddr 6 (.t 1)),
  .op (some 9) (.load 6 true (.t 8)),
  .op (some 10) (.call (.v (.lit (.func (.func 14) #[] #[]))) [(.t 9)]),
  .op (some 11) (.faddr 6 (.t 3)),
  .op none (.store 6 (.t 11) (.t 10))])
 (.seq (.reg [.op (some 12) (.faddr 12 (.t 1)),
  .op (some 13) (.load 1 false (.t 12)),
  .op (some 14) (.faddr 12 (.t 3)),
  .op none (.store 1 (.t 14) (.t 13))])
 (.seq (.reg [.op (some 15) (.faddr 13 (.t 1)),
  .op (some 16) (.load 1 false (.t 15)),
  .op (some 17) (.faddr 13 (.t 3)),
  .op none (.store 1 (.t 17) (.t 16))])
 (.seq (.reg [.op (some 18) (.load 14 true (.t 3)),
  .op none (.store 14 (.t 2) (.t 18))])
 .ret)))))))
def rs11 : List RR := [.cell 2 14 true]
def cut11 : Nat → Nat := fun id => 0
theorem k11 : (Try.f11.body.bind fun c => comp Try.prog Try.f11.ntmps cut11 c) = some r11 := by kernel_rfl
theorem by11 {W0 : World} {σ : List Blk} {args : List AV} {K : Cont} (hn : args.length ≤ 19) (h : rW Try.prog W0 σ.length r11 (initFr args) σ (finP W0 rs11 σ.length K)) : ACall Try.prog W0 11 args σ K :=
  ACall.introR mixed Try.func11 (by kernel_rfl) k11 (by kernel_rfl) hn h
def r12 : RC := (.seq (.reg [.op (some 1) (.box 30 (.t 0)),
  .op (some 2) (.mv (.v (.lit (.bool false))))])
 (.seq (.reg [.op (some 3) (.faddr 0 (.t 1)),
  .op (some 4) (.load 6 true (.t 3)),
  .op (some 5) (.call (.v (.lit (.func (.func 41) #[] #[]))) [(.t 4)]),
  .op (some 6) (.mv (.t 5)),
  .grp 6 true [((some 7), (.faddr 6 (.t 1))), ((some 8), (.load 6 true (.t 7))), ((some 9), (.call (.v (.lit (.func (.func 41) #[] #[]))) [(.t 8)]))],
  .op (some 10) (.pick (.t 6) (.t 9) (.v (.lit (.bool false)))),
  .op (some 11) (.mv (.t 10)),
  .grp 11 true [((some 12), (.faddr 12 (.t 1))), ((some 13), (.load 1 false (.t 12))), ((some 14), (.binI .geq (.t 13) (.v (.lit (.int .i64 (0))))))],
  .op (some 15) (.pick (.t 11) (.t 14) (.v (.lit (.bool false)))),
  .op (some 16) (.mv (.t 15)),
  .grp 16 true [((some 17), (.faddr 12 (.t 1))), ((some 18), (.load 1 false (.t 17))), ((some 19), (.binI .leq (.t 18) (.v (.lit (.int .i64 (1000))))))],
  .op (some 20) (.pick (.t 16) (.t 19) (.v (.lit (.bool false)))),
  .op (some 21) (.mv (.t 20)),
  .grp 21 true [((some 22), (.faddr 13 (.t 1))), ((some 23), (.load 1 false (.t 22))), ((some 24), (.binI .geq (.t 23) (.v (.lit (.int .i64 (0))))))],
  .op (some 25) (.pick (.t 21) (.t 24) (.v (.lit (.bool false)))),
  .op (some 26) (.mv (.t 25)),
  .grp 26 true [((some 27), (.faddr 13 (.t 1))), ((some 28), (.load 1 false (.t 27))), ((some 29), (.binI .leq (.t 28) (.v (.lit (.int .i64 (1000))))))],
  .op (some 30) (.pick (.t 26) (.t 29) (.v (.lit (.bool false)))),
  .op (some 2) (.mv (.t 30))])
 .ret))
def rs12 : List RR := [.tmp 2]
def cut12 : Nat → Nat := fun id => 0
theorem k12 : (Try.f12.body.bind fun c => comp Try.prog Try.f12.ntmps cut12 c) = some r12 := by kernel_rfl
theorem by12 {W0 : World} {σ : List Blk} {args : List AV} {K : Cont} (hn : args.length ≤ 31) (h : rW Try.prog W0 σ.length r12 (initFr args) σ (finP W0 rs12 σ.length K)) : ACall Try.prog W0 12 args σ K :=
  ACall.introR mixed Try.func12 (by kernel_rfl) k12 (by kernel_rfl) hn h
def r13 : RC := (.seq (.reg [.op (some 2) (.box 28 (.t 0)),
  .op (some 3) (.box 28 (.t 1)),
  .op (some 4) (.alloc 30 (List.replicate 14 (.lit (.int .i64 (0))))),
  .op (some 5) (.mv (.v (.lit (.bool false))))])
 (.seq (.seq (.reg [.op (some 6) (.load 6 true (.t 2)),
  .op (some 7) (.call (.v (.lit (.func (.func 42) #[] #[]))) [(.t 6)]),
  .op (some 8) (.un .not (.t 7)),
  .op (some 9) (.mv (.t 8)),
  .grp 9 false [((some 10), (.load 6 true (.t 3))), ((some 11), (.call (.v (.lit (.func (.func 42) #[] #[]))) [(.t 10)])), ((some 12), (.un .not (.t 11)))],
  .op (some 13) (.pick (.t 9) (.v (.lit (.bool true))) (.t 12))])
 (.cond (.t 13)
 (.seq (.reg [.op (some 14) (.build (List.replicate 14 (.lit (.int .i64 (0)))) []),
  .op none (.store 14 (.t 4) (.t 14)),
  .op (some 5) (.mv (.v (.lit (.bool false))))])
 .ret)
 .skip))
 (.seq (.reg [.op (some 15) (.load 6 true (.t 2)),
  .op (some 16) (.load 6 true (.t 3)),
  .op (some 17) (.build (List.replicate 14 (.lit (.int .i64 (0)))) [((0, 6), (.t 15)), ((6, 6), (.t 16))]),
  .op none (.store 14 (.t 4) (.t 17)),
  .op (some 5) (.mv (.v (.lit (.bool true))))])
 .ret)))
def rs13 : List RR := [.cell 4 14 true, .tmp 5]
def cut13 : Nat → Nat := fun id => 0
theorem k13 : (Try.f13.body.bind fun c => comp Try.prog Try.f13.ntmps cut13 c) = some r13 := by kernel_rfl
theorem by13 {W0 : World} {σ : List Blk} {args : List AV} {K : Cont} (hn : args.length ≤ 18) (h : rW Try.prog W0 σ.length r13 (initFr args) σ (finP W0 rs13 σ.length K)) : ACall Try.prog W0 13 args σ K :=
  ACall.introR mixed Try.func13 (by kernel_rfl) k13 (by kernel_rfl) hn h
def r14 : RC := (.seq (.reg [.op (some 1) (.box 24 (.t 0)),
  .op (some 2) (.alloc 28 (List.replicate 6 (.lit (.int .i64 (0)))))])
 (.seq (.reg [.op (some 3) (.alloc 28 (List.replicate 6 (.lit (.int .i64 (0)))))])
 (.seq (.reg [.op (some 4) (.faddr 0 (.t 1)),
  .op (some 5) (.load 6 true (.t 4)),
  .op (some 6) (.call (.v (.lit (.func (.func 43) #[] #[]))) [(.t 5)]),
  .op (some 7) (.faddr 0 (.t 3)),
  .op none (.store 6 (.t 7) (.t 6))])
 (.seq (.reg [.op (some 8) (.load 6 true (.t 3)),
  .op none (.store 6 (.t 2) (.t 8))])
 .ret))))
def rs14 : List RR := [.cell 2 6 true]
def cut14 : Nat → Nat := fun id => 0
theorem k14 : (Try.f14.body.bind fun c => comp Try.prog Try.f14.ntmps cut14 c) = some r14 := by kernel_rfl
theorem by14 {W0 : World} {σ : List Blk} {args : List AV} {K : Cont} (hn : args.length ≤ 9) (h : rW Try.prog W0 σ.length r14 (initFr args) σ (finP W0 rs14 σ.length K)) : ACall Try.prog W0 14 args σ K :=
  ACall.introR mixed Try.func14 (by kernel_rfl) k14 (by kernel_rfl) hn h
def r15 : RC := (.seq (.reg [.op (some 2) (.box 28 (.t 0)),
  .op (some 3) (.box 28 (.t 1)),
  .op (some 4) (.alloc 30 (List.replicate 14 (.lit (.int .i64 (0))))),
  .op (some 5) (.mv (.v (.lit (.bool false))))])
 (.seq (.reg [.op (some 7) (.load 6 true (.t 2)),
  .op (some 8) (.load 6 true (.t 3)),
  .op (some 9) (.build (List.replicate 14 (.lit (.int .i64 (0)))) [((0, 6), (.t 7)), ((6, 6), (.t 8))]),
  .op (some 6) (.alloc 30 (List.replicate 14 (.lit (.int .i64 (0))))),
  .op none (.store 14 (.t 6) (.t 9))])
 (.seq (.seq (.reg [.op (some 10) (.load 14 true (.t 6)),
  .op (some 11) (.call (.v (.lit (.func (.func 12) #[] #[]))) [(.t 10)]),
  .op (some 12) (.un .not (.t 11))])
 (.cond (.t 12)
 (.seq (.reg [.op (some 13) (.build (List.replicate 14 (.lit (.int .i64 (0)))) []),
  .op none (.store 14 (.t 4) (.t 13)),
  .op (some 5) (.mv (.v (.lit (.bool false))))])
 .ret)
 .skip))
 (.seq (.reg [.op (some 14) (.load 14 true (.t 6)),
  .op none (.store 14 (.t 4) (.t 14)),
  .op (some 5) (.mv (.v (.lit (.bool true))))])
 .ret))))
def rs15 : List RR := [.cell 4 14 true, .tmp 5]
def cut15 : Nat → Nat := fun id => 0
theorem k15 : (Try.f15.body.bind fun c => comp Try.prog Try.f15.ntmps cut15 c) = some r15 := by kernel_rfl
theorem by15 {W0 : World} {σ : List Blk} {args : List AV} {K : Cont} (hn : args.length ≤ 15) (h : rW Try.prog W0 σ.length r15 (initFr args) σ (finP W0 rs15 σ.length K)) : ACall Try.prog W0 15 args σ K :=
  ACall.introR mixed Try.func15 (by kernel_rfl) k15 (by kernel_rfl) hn h
def r16 : RC := (.seq (.reg [.op (some 2) (.box 30 (.t 0)),
  .op (some 3) (.box 30 (.t 1)),
  .op (some 4) (.mv (.v (.lit (.bool false))))])
 (.seq (.seq (.reg [.op (some 5) (.faddr 0 (.t 2)),
  .op (some 6) (.load 6 true (.t 5)),
  .op (some 7) (.faddr 0 (.t 3)),
  .op (some 8) (.load 6 true (.t 7)),
  .op (some 9) (.call (.v (.lit (.func (.func 44) #[] #[]))) [(.t 6), (.t 8)]),
  .op (some 10) (.un .not (.t 9))])
 (.cond (.t 10)
 (.seq (.reg [.op (some 4) (.mv (.v (.lit (.bool false))))])
 .ret)
 .skip))
 (.seq (.seq (.reg [.op (some 11) (.faddr 6 (.t 2)),
  .op (some 12) (.load 6 true (.t 11)),
  .op (some 13) (.faddr 6 (.t 3)),
  .op (some 14) (.load 6 true (.t 13)),
  .op (some 15) (.call (.v (.lit (.func (.func 44) #[] #[]))) [(.t 12), (.t 14)]),
  .op (some 16) (.un .not (.t 15))])
 (.cond (.t 16)
 (.seq (.reg [.op (some 4) (.mv (.v (.lit (.bool false))))])
 .ret)
 .skip))
 (.seq (.seq (.reg [.op (some 17) (.faddr 12 (.t 2)),
  .op (some 18) (.load 1 false (.t 17)),
  .op (some 19) (.faddr 12 (.t 3)),
  .op (some 20) (.load 1 false (.t 19)),
  .op (some 21) (.binI .neq (.t 18) (.t 20))])
 (.cond (.t 21)
 (.seq (.reg [.op (some 4) (.mv (.v (.lit (.bool false))))])
 .ret)
 .skip))
 (.seq (.seq (.reg [.op (some 22) (.faddr 13 (.t 2)),
  .op (some 23) (.load 1 false (.t 22)),
  .op (some 24) (.faddr 13 (.t 3)),
  .op (some 25) (.load 1 false (.t 24)),
  .op (some 26) (.binI .neq (.t 23) (.t 25))])
 (.cond (.t 26)
 (.seq (.reg [.op (some 4) (.mv (.v (.lit (.bool false))))])
 .ret)
 .skip))
 (.seq (.reg [.op (some 4) (.mv (.v (.lit (.bool true))))])
 .ret))))))
def rs16 : List RR := [.tmp 4]
def cut16 : Nat → Nat := fun id => 0
theorem k16 : (Try.f16.body.bind fun c => comp Try.prog Try.f16.ntmps cut16 c) = some r16 := by kernel_rfl
theorem by16 {W0 : World} {σ : List Blk} {args : List AV} {K : Cont} (hn : args.length ≤ 27) (h : rW Try.prog W0 σ.length r16 (initFr args) σ (finP W0 rs16 σ.length K)) : ACall Try.prog W0 16 args σ K :=
  ACall.introR mixed Try.func16 (by kernel_rfl) k16 (by kernel_rfl) hn h
def r17 : RC := (.seq (.reg [.op (some 1) (.box 30 (.t 0)),
  .op (some 2) (.alloc 41 [(.lit (.int .i64 (0))), (.lit (.int .i64 (0))), (.lit (.int .i64 (0))), (.lit (.int .i64 (0))), (.lit (.int .i64 (0))), (.lit (.int .i64 (0))), (.lit (.int .i64 (0))), (.lit (.int .i64 (0))), (.lit (.int .i64 (0))), (.lit (.int .i64 (0))), (.lit (.int .i64 (0))), (.lit (.int .i64 (0))), (.lit (.int .i64 (0))), (.lit (.int .i64 (0))), (.lit (.string ⟨#[]⟩)), (.lit (.string ⟨#[]⟩)), (.lit (.int .i64 (0)))]),
  .op (some 3) (.mv (.v (.lit (.bool false))))])
 (.seq (.seq (.reg [.op (some 4) (.load 14 true (.t 1)),
  .op (some 5) (.call (.v (.lit (.func (.func 40) #[] #[]))) [(.t 4)]),
  .op (some 6) (.un .not (.t 5))])
 (.cond (.t 6)
 (.seq (.reg [.op (some 7) (.build [(.lit (.int .i64 (0))), (.lit (.int .i64 (0))), (.lit (.int .i64 (0))), (.lit (.int .i64 (0))), (.lit (.int .i64 (0))), (.lit (.int .i64 (0))), (.lit (.int .i64 (0))), (.lit (.int .i64 (0))), (.lit (.int .i64 (0))), (.lit (.int .i64 (0))), (.lit (.int .i64 (0))), (.lit (.int .i64 (0))), (.lit (.int .i64 (0))), (.lit (.int .i64 (0))), (.lit (.string ⟨#[]⟩)), (.lit (.string ⟨#[]⟩)), (.lit (.int .i64 (0)))] []),
  .op none (.store 17 (.t 2) (.t 7)),
  .op (some 3) (.mv (.v (.lit (.bool false))))])
 .ret)
 .skip))
 (.seq (.reg [.op (some 8) (.load 14 true (.t 1)),
  .op (some 9) (.build [(.lit (.int .i64 (0))), (.lit (.int .i64 (0))), (.lit (.int .i64 (0))), (.lit (.int .i64 (0))), (.lit (.int .i64 (0))), (.lit (.int .i64 (0))), (.lit (.int .i64 (0))), (.lit (.int .i64 (0))), (.lit (.int .i64 (0))), (.lit (.int .i64 (0))), (.lit (.int .i64 (0))), (.lit (.int .i64 (0))), (.lit (.int .i64 (0))), (.lit (.int .i64 (0))), (.lit (.string ⟨#[]⟩)), (.lit (.string ⟨#[]⟩)), (.lit (.int .i64 (0)))] [((0, 14), (.t 8))]),
  .op none (.store 17 (.t 2) (.t 9)),
  .op (some 3) (.mv (.v (.lit (.bool true))))])
 .ret)))
def rs17 : List RR := [.cell 2 17 true, .tmp 3]
def cut17 : Nat → Nat := fun id => 0
theorem k17 : (Try.f17.body.bind fun c => comp Try.prog Try.f17.ntmps cut17 c) = some r17 := by kernel_rfl
theorem by17 {W0 : World} {σ : List Blk} {args : List AV} {K : Cont} (hn : args.length ≤ 10) (h : rW Try.prog W0 σ.length r17 (initFr args) σ (finP W0 rs17 σ.length K)) : ACall Try.prog W0 17 args σ K :=
  ACall.introR mixed Try.func17 (by kernel_rfl) k17 (by kernel_rfl) hn h
def r18 : RC := (.seq (.reg [.op (some 1) (.box 30 (.t 0)),
  .op (some 2) (.alloc 41 [(.lit (.int .i64 (0))), (.lit (.int .i64 (0))), (.lit (.int .i64 (0))), (.lit (.int .i64 (0))), (.lit (.int .i64 (0))), (.lit (.int .i64 (0))), (.lit (.int .i64 (0))), (.lit (.int .i64 (0))), (.lit (.int .i64 (0))), (.lit (.int .i64 (0))), (.lit (.int .i64 (0))), (.lit (.int .i64 (0))), (.lit (.int .i64 (0))), (.lit (.int .i64 (0))), (.lit (.string ⟨#[]⟩)), (.lit (.string ⟨#[]⟩)), (.lit (.int .i64 (0)))]),
  .op (some 3) (.mv (.v (.lit (.bool false))))])
 (.seq (.seq (.reg [.op (some 4) (.load 14 true (.t 1)),
  .op (some 5) (.call (.v (.lit (.func (.func 12) #[] #[]))) [(.t 4)]),
  .op (some 6) (.un .not (.t 5))])
 (.cond (.t 6)
 (.seq (.reg [.op (some 7) (.build [(.lit (.int .i64 (0))), (.lit (.int .i64 (0))), (.lit (.int .i64 (0))), (.lit (.int .i64 (0))), (.lit (.int .i64 (0))), (.lit (.int .i64 (0))), (.lit (.int .i64 (0))), (.lit (.int .i64 (0))), (.lit (.int .i64 (0))), (.lit (.int .i64 (0))), (.lit (.int .i64 (0))), (.lit (.int .i64 (0))), (.lit (.int .i64 (0))), (.lit (.int .i64 (0))), (.lit (.string ⟨#[]⟩)), (.lit (.string ⟨#[]⟩)), (.lit (.int .i64 (0)))] []),
  .op none (.store 17 (.t 2) (.t 7)),
  .op (some 3) (.mv (.v (.lit (.bool false))))])
 .ret)
 .skip))
 (.seq (.reg [.op (some 8) (.load 14 true (.t 1)),
  .op (some 9) (.build [(.lit (.int .i64 (0))), (.lit (.int .i64 (0))), (.lit (.int .i64 (0))), (.lit (.int .i64 (0))), (.lit (.int .i64 (0))), (.lit (.int .i64 (0))), (.lit (.int .i64 (0))), (.lit (.int .i64 (0))), (.lit (.int .i64 (0))), (.lit (.int .i64 (0))), (.lit (.int .i64 (0))), (.lit (.int .i64 (0))), (.lit (.int .i64 (0))), (.lit (.int .i64 (0))), (.lit (.string ⟨#[]⟩)), (.lit (.string ⟨#[]⟩)), (.lit (.int .i64 (0)))] [((0, 14), (.t 8))]),
  .op none (.store 17 (.t 2) (.t 9)),
  .op (some 3) (.mv (.v (.lit (.bool true))))])
 .ret)))
def rs18 : List RR := [.cell 2 17 true, .tmp 3]
def cut18 : Nat → Nat := fun id => 0
theorem k18 : (Try.f18.body.bind fun c => comp Try.prog Try.f18.ntmps cut18 c) = some r18 := by kernel_rfl
theorem by18 {W0 : World} {σ : List Blk} {args : List AV} {K : Cont} (hn : args.length ≤ 10) (h : rW Try.prog W0 σ.length r18 (initFr args) σ (finP W0 rs18 σ.length K)) : ACall Try.prog W0 18 args σ K :=
  ACall.introR mixed Try.func18 (by kernel_rfl) k18 (by kernel_rfl) hn h
def r19 : RC := (.seq (.reg [.op (some 2) (.box 41 (.t 0)),
  .op (some 3) (.box 41 (.t 1)),
  .op (some 4) (.mv (.v (.lit (.bool false))))])
 (.seq (.seq (.reg [.op (some 5) (.faddr 0 (.t 2)),
  .op (some 6) (.load 14 true (.t 5)),
  .op (some 7) (.faddr 0 (.t 3)),
  .op (some 8) (.load 14 true (.t 7)),
  .op (some 9) (.call (.v (.lit (.func (.func 16) #[] #[]))) [(.t 6), (.t 8)]),
  .op (some 10) (.un .not (.t 9))])
 (.cond (.t 10)
 (.seq (.reg [.op (some 4) (.mv (.v (.lit (.bool false))))])
 .ret)
 .skip))
 (.seq (.seq (.reg [.op (some 11) (.faddr 14 (.t 2)),
  .op (some 12) (.load 3 true (.t 11)),
  .op (some 13) (.faddr 14 (.t 3)),
  .op (some 14) (.load 3 true (.t 13)),
  .op (some 15) (.call (.v (.lit (.func (.func 45) #[] #[]))) [(.t 12), (.t 14)]),
  .op (some 16) (.un .not (.t 15))])
 (.cond (.t 16)
 (.seq (.reg [.op (some 4) (.mv (.v (.lit (.bool false))))])
 .ret)
 .skip))
 (.seq (.reg [.op (some 4) (.mv (.v (.lit (.bool true))))])
 .ret))))
def rs19 : List RR := [.tmp 4]
def cut19 : Nat → Nat := fun id => 0
theorem k19 : (Try.f19.body.bind fun c => comp Try.prog Try.f19.ntmps cut19 c) = some r19 := by kernel_rfl
theorem by19 {W0 : World} {σ : List Blk} {args : List AV} {K : Cont} (hn : args.length ≤ 17) (h : rW Try.prog W0 σ.length r19 (initFr args) σ (finP W0 rs19 σ.length K)) : ACall Try.prog W0 19 args σ K :=
  ACall.introR mixed Try.func19 (by kernel_rfl) k19 (by kernel_rfl) hn h
def r20 : RC := (.seq (.reg [.op (some 1) (.box 30 (.t 0)),
  .op (some 2) (.mv (.v (.lit (.int .i64 (0))))),
  .op (some 3) (.mv (.v (.lit (.bool false))))])
 (.seq (.seq (.reg [.op (some 4) (.load 14 true (.t 1)),
  .op (some 5) (.call (.v (.lit (.func (.func 40) #[] #[]))) [(.t 4)]),
  .op (some 6) (.un .not (.t 5))])
 (.cond (.t 6)
 (.seq (.reg [.op (some 2) (.mv (.v (.lit (.int .i64 (0))))),
  .op (some 3) (.mv (.v (.lit (.bool false))))])
 .ret)
 .skip))
 (.seq (.reg [.op (some 7) (.faddr 0 (.t 1)),
  .op (some 8) (.load 6 true (.t 7)),
  .op (some 9) (.faddr 6 (.t 1)),
  .op (some 10) (.load 6 true (.t 9)),
  .op (some 11) (.call (.v (.lit (.func (.func 47) #[] #[]))) [(.t 8), (.t 10)]),
  .op (some 12) (.call (.v (.lit (.func (.func 46) #[] #[]))) [(.t 11)]),
  .op (some 2) (.mv (.t 12)),
  .op (some 3) (.mv (.v (.lit (.bool true))))])
 .ret)))
def rs20 : List RR := [.tmp 2, .tmp 3]
def cut20 : Nat → Nat := fun id => 0
theorem k20 : (Try.f20.body.bind fun c => comp Try.prog Try.f20.ntmps cut20 c) = some r20 := by kernel_rfl
theorem by20 {W0 : World} {σ : List Blk} {args : List AV} {K : Cont} (hn : args.length ≤ 13) (h : rW Try.prog W0 σ.length r20 (initFr args) σ (finP W0 rs20 σ.length K)) : ACall Try.prog W0 20 args σ K :=
  ACall.introR mixed Try.func20 (by kernel_rfl) k20 (by kernel_rfl) hn h
def r21 : RC := (.seq (.reg [.op (some 1) (.box 30 (.t 0)),
  .op (some 2) (.mv (.v (.lit (.int .i64 (0))))),
  .op (some 3) (.mv (.v (.lit (.bool false))))])
 (.seq (.seq (.reg [.op (some 7) (.load 14 true (.t 1)),
  .op (some 8) (.call (.v (.lit (.func (.func 12) #[] #[]))) [(.t 7)]),
  .op (some 9) (.un .not (.t 8))])
 (.cond (.t 9)
 (.seq (.reg [.op (some 2) (.mv (.v (.lit (.int .i64 (0))))),
  .op (some 3) (.mv (.v (.lit (.bool false))))])
 .ret)
 .skip))
 (.seq (.reg [.op (some 11) (.faddr 0 (.t 1)),
  .op (some 12) (.load 6 true (.t 11)),
  .op (some 13) (.faddr 6 (.t 1)),
  .op (some 14) (.load 6 true (.t 13)),
  .op (some 15) (.call (.v (.lit (.func (.func 48) #[] #[]))) [(.t 12), (.t 14)]),
  .op (some 10) (.mv (.t 15)),
  .op (some 16) (.ext (.t 10) 0),
  .op (some 17) (.ext (.t 10) 1),
  .op (some 18) (.ext (.t 10) 2),
  .op (some 4) (.mv (.t 16)),
  .op (some 5) (.mv (.t 17)),
  .op (some 6) (.mv (.t 18))])
 (.seq (.reg [.op (some 19) (.mv (.t 4)),
  .op (some 20) (.mv (.t 5)),
  .op (some 21) (.binI .and (.t 19) (.t 20)),
  .op (some 22) (.call (.v (.lit (.func (.func 49) #[] #[]))) [(.t 21)]),
  .op (some 2) (.mv (.t 22)),
  .op (some 3) (.mv (.v (.lit (.bool true))))])
 .ret))))
def rs21 : List RR := [.tmp 2, .tmp 3]
def cut21 : Nat → Nat := fun id => 0
theorem k21 : (Try.f21.body.bind fun c => comp Try.prog Try.f21.ntmps cut21 c) = some r21 := by kernel_rfl
theorem by21 {W0 : World} {σ : List Blk} {args : List AV} {K : Cont} (hn : args.length ≤ 23) (h : rW Try.prog W0 σ.length r21 (initFr args) σ (finP W0 rs21 σ.length K)) : ACall Try.prog W0 21 args σ K :=
  ACall.introR mixed Try.func21 (by kernel_rfl) k21 (by kernel_rfl) hn h
def r22 : RC := (.seq (.reg [.op (some 2) (.box 48 (.t 0)),
  .op (some 4) (.mv (.v (.lit (.int .i64 (0)))))])
 (.seq (.reg [.op (some 5) (.mv (.t 1)),
  .op (some 6) (.faddr 0 (.t 2)),
  .op (some 7) (.load 1 false (.t 6)),
  .op (some 8) (.lenS (.t 7)),
  .op (some 9) (.binI .sub (.t 5) (.t 8)),
  .op (some 1) (.mv (.t 9))])
 (.seq (.seq (.reg [.op (some 10) (.mv (.t 1)),
  .op (some 11) (.binI .lss (.t 10) (.v (.lit (.int .i64 (0)))))])
 (.cond (.t 11)
 (.seq (.reg [.op (some 4) (.mv (.v (.lit (.int .i64 (-1)))))])
 .ret)
 .skip))
 (.seq (.reg [.op (some 12) (.mv (.t 1)),
  .op (some 13) (.faddr 1 (.t 2)),
  .op (some 14) (.load 1 false (.t 13)),
  .op (some 15) (.lenS (.t 14)),
  .op (some 16) (.binI .sub (.t 12) (.t 15)),
  .op (some 1) (.mv (.t 16))])
 (.seq (.seq (.reg [.op (some 17) (.mv (.t 1)),
  .op (some 18) (.binI .lss (.t 17) (.v (.lit (.int .i64 (0)))))])
 (.cond (.t 18)
 (.seq (.reg [.op (some 4) (.mv (.v (.lit (.int .i64 (-1)))))])
 .ret)
 .skip))
 (.seq (.reg [.op (some 19) (.mv (.t 1)),
  .op (some 4) (.mv (.t 19))])
 .ret))))))
def rs22 : List RR := [.tmp 4]
def cut22 : Nat → Nat := fun id => 0
theorem k22 : (Try.f22.body.bind fun c => comp Try.prog Try.f22.ntmps cut22 c) = some r22 := by kernel_rfl
theorem by22 {W0 : World} {σ : List Blk} {args : List AV} {K : Cont} (hn : args.length ≤ 20) (h : rW Try.prog W0 σ.length r22 (initFr args) σ (finP W0 rs22 σ.length K)) : ACall Try.prog W0 22 args σ K :=
  ACall.introR mixed Try.func22 (by kernel_rfl) k22 (by kernel_rfl) hn h
def r23 : RC := (.seq (.reg [.op (some 1) (.box 51 (.t 0)),
  .op (some 2) (.mv (.v (.lit (.bool false))))])
 (.seq (.reg [.op (some 3) (.load 2 true (.t 1)),
  .op (some 4) (.call (.v (.lit (.func (.func 50) #[] #[]))) [(.t 3)]),
  .op (some 2) (.mv (.t 4))])
 .ret))
def rs23 : List RR := [.tmp 2]
def cut23 : Nat → Nat := fun id => 0
theorem k23 : (Try.f23.body.bind fun c => comp Try.prog Try.f23.ntmps cut23 c) = some r23 := by kernel_rfl
theorem by23 {W0 : World} {σ : List Blk} {args : List AV} {K : Cont} (hn : args.length ≤ 5) (h : rW Try.prog W0 σ.length r23 (initFr args) σ (finP W0 rs23 σ.length K)) : ACall Try.prog W0 23 args σ K :=
  ACall.introR mixed Try.func23 (by kernel_rfl) k23 (by kernel_rfl) hn h
def r24 : RC := (.seq (.reg [.op (some 1) (.box 48 (.t 0)),
  .op (some 2) (.alloc 51 [(.lit (.string ⟨#[]⟩)), (.lit (.string ⟨#[]⟩))])])
 (.seq (.reg [.op (some 3) (.alloc 51 [(.lit (.string ⟨#[]⟩)), (.lit (.string ⟨#[]⟩))])])
 (.seq (.reg [.op (some 4) (.faddr 0 (.t 1)),
  .op (some 5) (.load 1 false (.t 4)),
  .op (some 6) (.faddr 0 (.t 3)),
  .op none (.store 1 (.t 6) (.t 5))])
 (.seq (.reg [.op (some 7) (.faddr 1 (.t 1)),
  .op (some 8) (.load 1 false (.t 7)),
  .op (some 9) (.faddr 1 (.t 3)),
  .op none (.store 1 (.t 9) (.t 8))])
 (.seq (.reg [.op (some 10) (.load 2 true (.t 3)),
  .op none (.store 2 (.t 2) (.t 10))])
 .ret)))))
def rs24 : List RR := [.cell 2 2 true]
def cut24 : Nat → Nat := fun id => 0
theorem k24 : (Try.f24.body.bind fun c => comp Try.prog Try.f24.ntmps cut24 c) = some r24 := by kernel_rfl
theorem by24 {W0 : World} {σ : List Blk} {args : List AV} {K : Cont} (hn : args.length ≤ 11) (h : rW Try.prog W0 σ.length r24 (initFr args) σ (finP W0 rs24 σ.length K)) : ACall Try.prog W0 24 args σ K :=
  ACall.introR mixed Try.func24 (by kernel_rfl) k24 (by kernel_rfl) hn h
def r25 : RC := (.seq (.reg [.op (some 1) (.box 51 (.t 0)),
  .op (some 2) (.mv (.v (.lit (.bool false))))])
 (.seq (.reg [.op (some 3) (.faddr 0 (.t 1)),
  .op (some 4) (.load 1 false (.t 3)),
  .op (some 5) (.call (.v (.lit (.func (.func 51) #[] #[]))) [(.t 4)]),
  .op (some 6) (.mv (.t 5)),
  .grp 6 true [((some 7), (.faddr 1 (.t 1))), ((some 8), (.load 1 false (.t 7))), ((some 9), (.lenS (.t 8))), ((some 10), (.binI .leq (.t 9) (.v (.lit (.int .i64 (250))))))],
  .op (some 11) (.pick (.t 6) (.t 10) (.v (.lit (.bool false)))),
  .op (some 12) (.mv (.t 11)),
  .grp 12 true [((some 13), (.faddr 1 (.t 1))), ((some 14), (.load 1 false (.t 13))), ((some 15), (.call (.v (.lit (.func (.func 52) #[] #[]))) [(.t 14)]))],
  .op (some 16) (.pick (.t 12) (.t 15) (.v (.lit (.bool false)))),
  .op (some 2) (.mv (.t 16))])
 .ret))
def rs25 : List RR := [.tmp 2]
def cut25 : Nat → Nat := fun id => 0
theorem k25 : (Try.f25.body.bind fun c => comp Try.prog Try.f25.ntmps cut25 c) = some r25 := by kernel_rfl
theorem by25 {W0 : World} {σ : List Blk} {args : List AV} {K : Cont} (hn : args.length ≤ 17) (h : rW Try.prog W0 σ.length r25 (initFr args) σ (finP W0 rs25 σ.length K)) : ACall Try.prog W0 25 args σ K :=
  ACall.introR mixed Try.func25 (by kernel_rfl) k25 (by kernel_rfl) hn h
def r26 : RC := (.seq (.reg [.op (some 2) (.box 57 (.t 0)),
  .op (some 4) (.mv (.v (.lit (.int .i64 (0)))))])
 (.seq (.reg [.op (some 5) (.faddr 6 (.t 2)),
  .op (some 6) (.load 1 false (.t 5)),
  .op (some 7) (.mv (.t 1)),
  .op (some 8) (.call (.v (.lit (.func (.func 53) #[] #[]))) [(.t 6), (.t 7)]),
  .op (some 1) (.mv (.t 8))])
 (.seq (.seq (.reg [.op (some 9) (.mv (.t 1)),
  .op (some 10) (.binI .lss (.t 9) (.v (.lit (.int .i64 (0)))))])
 (.cond (.t 10)
 (.seq (.reg [.op (some 4) (.mv (.v (.lit (.int .i64 (-1)))))])
 .ret)
 .skip))
 (.seq (.reg [.op (some 11) (.faddr 7 (.t 2)),
  .op (some 12) (.load 1 false (.t 11)),
  .op (some 13) (.mv (.t 1)),
  .op (some 14) (.call (.v (.lit (.func (.func 54) #[] #[]))) [(.t 12), (.t 13)]),
  .op (some 1) (.mv (.t 14))])
 (.seq (.seq (.reg [.op (some 15) (.mv (.t 1)),
  .op (some 16) (.binI .lss (.t 15) (.v (.lit (.int .i64 (0)))))])
 (.cond (.t 16)
 (.seq (.reg [.op (some 4) (.mv (.v (.lit (.int .i64 (-1)))))])
 .ret)
 .skip))
 (.seq (.reg [.op (some 17) (.mv (.t 1)),
  .op (some 4) (.mv (.t 17))])
 .ret))))))
def rs26 : List RR := [.tmp 4]
def cut26 : Nat → Nat := fun id => 0
theorem k26 : (Try.f26.body.bind fun c => comp Try.prog Try.f26.ntmps cut26 c) = some r26 := by kernel_rfl
theorem by26 {W0 : World} {σ : List Blk} {args : List AV} {K : Cont} (hn : args.length ≤ 18) (h : rW Try.prog W0 σ.length r26 (initFr args) σ (finP W0 rs26 σ.length K)) : ACall Try.prog W0 26 args σ K :=
  ACall.introR mixed Try.func26 (by kernel_rfl) k26 (by kernel_rfl) hn h
def r27 : RC := (.seq (.reg [.op (some 1) (.box 63 (.t 0)),
  .op (some 2) (.mv (.v (.lit (.bool false))))])
 (.seq (.reg [.op (some 3) (.load 8 true (.t 1)),
  .op (some 4) (.call (.v (.lit (.func (.func 55) #[] #[]))) [(.t 3)]),
  .op (some 2) (.mv (.t 4))])
 .ret))
def rs27 : List RR := [.tmp 2]
def cut27 : Nat → Nat := fun id => 0
theorem k27 : (Try.f27.body.bind fun c => comp Try.prog Try.f27.ntmps cut27 c) = some r27 := by kernel_rfl
theorem by27 {W0 : World} {σ : List Blk} {args : List AV} {K : Cont} (hn : args.length ≤ 5) (h : rW Try.prog W0 σ.length r27 (initFr args) σ (finP W0 rs27 σ.length K)) : ACall Try.prog W0 27 args σ K :=
  ACall.introR mixed Try.func27 (by kernel_rfl) k27 (by kernel_rfl) hn h
def r28 : RC := (.seq (.reg [.op (some 1) (.box 57 (.t 0)),
  .op (some 2) (.alloc 63 [(.lit (.int .i64 (0))), (.lit (.int .i64 (0))), (.lit (.int .i64 (0))), (.lit (.int .i64 (0))), (.lit (.int .i64 (0))), (.lit (.int .i64 (0))), (.lit (.slice none 0 0)), (.lit (.slice none 0 0))])])
 (.seq (.reg [.op (some 3) (.alloc 63 [(.lit (.int .i64 (0))), (.lit (.int .i64 (0))), (.lit (.int .i64 (0))), (.lit (.int .i64 (0))), (.lit (.int .i64 (0))), (.lit (.int .i64 (0))), (.lit (.slice none 0 0)), (.lit (.slice none 0 0))])])
 (.seq (.reg [.op (some 4) (.faddr 0 (.t 1)),
  .op (some 5) (.load 6 true (.t 4)),
  .op (some 6) (.call (.v (.lit (.func (.func 14) #[] #[]))) [(.t 5)]),
  .op (some 7) (.faddr 0 (.t 3)),
  .op none (.store 6 (.t 7) (.t 6))])
 (.seq (.reg [.op (some 8) (.faddr 6 (.t 1)),
  .op (some 9) (.load 1 false (.t 8)),
  .op (some 10) (.call (.v (.lit (.func (.func 56) #[] #[]))) [(.t 9)]),
  .op (some 11) (.faddr 6 (.t 3)),
  .op none (.store 1 (.t 11) (.t 10))])
 (.seq (.reg [.op (some 12) (.faddr 7 (.t 1)),
  .op (some 13) (.load 1 false (.t 12)),
  .op (some 14) (.call (.v (.lit (.func (.func 57) #[] #[]))) [(.t 13)]),
  .op (some 15) (.faddr 7 (.t 3)),
  .op none (.store 1 (.t 15) (.t 14))])
 (.seq (.reg [.op (some 16) (.load 8 true (.t 3)),
  .op none (.store 8 (.t 2) (.t 16))])
 .ret))))))
def rs28 : List RR := [.cell 2 8 true]
def cut28 : Nat → Nat := fun id => 0
theorem k28 : (Try.f28.body.bind fun c => comp Try.prog Try.f28.ntmps cut28 c) = some r28 := by kernel_rfl
theorem by28 {W0 : World} {σ : List Blk} {args : List AV} {K : Cont} (hn : args.length ≤ 17) (h : rW Try.prog W0 σ.length r28 (initFr args) σ (finP W0 rs28 σ.length K)) : ACall Try.prog W0 28 args σ K :=
  ACall.introR mixed Try.func28 (by kernel_rfl) k28 (by kernel_rfl) hn h
def r29 : RC := (.seq (.reg [.op (some 1) (.box 63 (.t 0)),
  .op (some 2) (.mv (.v (.lit (.bool false))))])
 (.seq (.reg [.op (some 6) (.load 8 true (.t 1)),
  .op (some 7) (.call (.v (.lit (.func (.func 58) #[] #[]))) [(.t 6)]),
  .op (some 5) (.mv (.t 7)),
  .op (some 8) (.ext (.t 5) 0),
  .op (some 9) (.ext (.t 5) 1),
  .op (some 3) (.mv (.t 8)),
  .op (some 4) (.mv (.t 9))])
 (.seq (.reg [.op (some 10) (.mv (.t 4)),
  .op (some 2) (.mv (.t 10))])
 .ret)))
def rs29 : List RR := [.tmp 2]
def cut29 : Nat → Nat := fun id => 0
theorem k29 : (Try.f29.body.bind fun c => comp Try.prog Try.f29.ntmps cut29 c) = some r29 := by kernel_rfl
theorem by29 {W0 : World} {σ : List Blk} {args : List AV} {K : Cont} (hn : args.length ≤ 11) (h : rW Try.prog W0 σ.length r29 (initFr args) σ (finP W0 rs29 σ.length K)) : ACall Try.prog W0 29 args σ K :=
  ACall.introR mixed Try.func29 (by kernel_rfl) k29 (by kernel_rfl) hn h
def r30 : RC := (.seq (.reg [.op (some 2) (.box 63 (.t 0)),
  .op (some 3) (.box 63 (.t 1)),
  .op (some 4) (.mv (.v (.lit (.bool false))))])
 (.seq (.seq (.reg [.op (some 5) (.faddr 0 (.t 2)),
  .op (some 6) (.load 6 true (.t 5)),
  .op (some 7) (.faddr 0 (.t 3)),
  .op (some 8) (.load 6 true (.t 7)),
  .op (some 9) (.call (.v (.lit (.func (.func 44) #[] #[]))) [(.t 6), (.t 8)]),
  .op (some 10) (.un .not (.t 9))])
 (.cond (.t 10)
 (.seq (.reg [.op (some 4) (.mv (.v (.lit (.bool false))))])
 .ret)
 .skip))
 (.seq (.seq (.reg [.op (some 11) (.faddr 6 (.t 2)),
  .op (some 12) (.load 1 false (.t 11)),
  .op (some 13) (.faddr 6 (.t 3)),
  .op (some 14) (.load 1 false (.t 13)),
  .op (some 15) (.call (.v (.lit (.func (.func 59) #[] #[]))) [(.t 12), (.t 14)]),
  .op (some 16) (.un .not (.t 15))])
 (.cond (.t 16)
 (.seq (.reg [.op (some 4) (.mv (.v (.lit (.bool false))))])
 .ret)
 .skip))
 (.seq (.seq (.reg [.op (some 17) (.faddr 7 (.t 2)),
  .op (some 18) (.load 1 false (.t 17)),
  .op (some 19) (.faddr 7 (.t 3)),
  .op (some 20) (.load 1 false (.t 19)),
  .op (some 21) (.call (.v (.lit (.func (.func 60) #[] #[]))) [(.t 18), (.t 20)]),
  .op (some 22) (.un .not (.t 21))])
 (.cond (.t 22)
 (.seq (.reg [.op (some 4) (.mv (.v (.lit (.bool false))))])
 .ret)
 .skip))
 (.seq (.reg [.op (some 4) (.mv (.v (.lit (.bool true))))])
 .ret)))))
def rs30 : List RR := [.tmp 4]
def cut30 : Nat → Nat := fun id => 0
theorem k30 : (Try.f30.body.bind fun c => comp Try.prog Try.f30.ntmps cut30 c) = some r30 := by kernel_rfl
theorem by30 {W0 : World} {σ : List Blk} {args : List AV} {K : Cont} (hn : args.length ≤ 23) (h : rW Try.prog W0 σ.length r30 (initFr args) σ (finP W0 rs30 σ.length K)) : ACall Try.prog W0 30 args σ K :=
  ACall.introR mixed Try.func30 (by kernel_rfl) k30 (by kernel_rfl) hn h
def r31 : RC := (.seq (.reg [.op (some 4) (.mv (.v (.lit (.int .i64 (0)))))])
 (.seq (.reg [.op (some 5) (.mv (.t 1)),
  .op (some 6) (.mv (.t 0)),
  .op (some 7) (.lenL (.t 6)),
  .op (some 8) (.binI .sub (.t 5) (.t 7)),
  .op (some 1) (.mv (.t 8))])
 (.seq (.seq (.reg [.op (some 9) (.mv (.t 1)),
  .op (some 10) (.binI .lss (.t 9) (.v (.lit (.int .i64 (0)))))])
 (.cond (.t 10)
 (.seq (.reg [.op (some 4) (.mv (.v (.lit (.int .i64 (-1)))))])
 .ret)
 .skip))
 (.seq (.reg [.op (some 11) (.mv (.t 1)),
  .op (some 4) (.mv (.t 11))])
 .ret))))
def rs31 : List RR := [.tmp 4]
def cut31 : Nat → Nat := fun id => 0
theorem k31 : (Try.f31.body.bind fun c => comp Try.prog Try.f31.ntmps cut31 c) = some r31 := by kernel_rfl
theorem by31 {W0 : World} {σ : List Blk} {args : List AV} {K : Cont} (hn : args.length ≤ 12) (h : rW Try.prog W0 σ.length r31 (initFr args) σ (finP W0 rs31 σ.length K)) : ACall Try.prog W0 31 args σ K :=
  ACall.introR mixed Try.func31 (by kernel_rfl) k31 (by kernel_rfl) hn h
def r32 : RC := (.seq (.reg [.op (some 2) (.mv (.v (.lit (.slice none 0 0)))),
  .op (some 3) (.mv (.v (.lit (.bool false))))])
 (.seq (.reg [.op (some 7) (.bslice 102 2 0 [(.lit (.int .i64 (0))), (.lit (.int .i64 (0)))] []),
  .op (some 4) (.mv (.t 7))])
 (.seq (.seq (.reg [.op (some 8) (.mv (.t 0)),
  .op (some 9) (.call (.v (.lit (.func (.func 61) #[] #[]))) [(.t 8)]),
  .op (some 10) (.un .not (.t 9))])
 (.cond (.t 10)
 (.seq (.reg [.op (some 11) (.mv (.t 4)),
  .op (some 2) (.mv (.t 11)),
  .op (some 3) (.mv (.v (.lit (.bool false))))])
 .ret)
 .skip))
 (.seq (.seq (.reg [.op (some 5) (.mv (.v (.lit (.int .i64 (0)))))])
 (.block 0 (.loop (.seq (.seq (.reg [.op (some 12) (.mv (.t 5)),
  .op (some 13) (.mv (.t 0)),
  .op (some 14) (.lenL (.t 13)),
  .op (some 15) (.binI .lss (.t 12) (.t 14))])
 (.cond (.t 15)
 .skip
 (.exit 0)))
 (.seq (.block 1 (.seq (.reg [.op (some 18) (.mv (.t 5)),
  .op (some 19) (.binI .add (.t 18) (.v (.lit (.int .i64 (1))))),
  .op (some 6) (.mv (.t 19))])
 (.block 2 (.loop (.seq (.seq (.reg [.op (some 20) (.mv (.t 6)),
  .op (some 21) (.mv (.t 0)),
  .op (some 22) (.lenL (.t 21)),
  .op (some 23) (.binI .lss (.t 20) (.t 22))])
 (.cond (.t 23)
 .skip
 (.exit 2)))
 (.seq (.block 3 (.seq (.draw [((some 26), (.mv (.t 0))), ((some 27), (.mv (.t 5))), ((some 28), (.iaddrS 9 (.t 26) (.t 27))), ((some 29), (.load 9 true (.t 28))), ((some 30), (.call (.v (.lit (.func (.func 62) #[] #[]))) [(.t 29)])), ((some 31), (.mv (.t 0))), ((some 32), (.mv (.t 6))), ((some 33), (.iaddrS 9 (.t 31) (.t 32))), ((some 34), (.load 9 true (.t 33))), ((some 35), (.call (.v (.lit (.func (.func 62) #[] #[]))) [(.t 34)])), ((some 36), (.call (.v (.lit (.func (.func 47) #[] #[]))) [(.t 30), (.t 35)])), ((some 37), (.call (.v (.lit (.func (.func 46) #[] #[]))) [(.t 36)])), ((some 38), (.binI .gtr (.t 37) (.v (.lit (.int .i64 (0))))))] [])
 (.cond (.t 38)
 (.reg [.op (some 39) (.mv (.t 4)),
  .op (some 40) (.mv (.t 5)),
  .op (some 41) (.mv (.t 6)),
  .op (some 42) (.build [(.lit (.int .i64 (0))), (.lit (.int .i64 (0)))] [((0, 1), (.t 40)), ((1, 1), (.t 41))]),
  .app (some 44) 43 102 2 16 (.t 39) 1 [(.lit (.int .i64 (0))), (.lit (.int .i64 (0)))] [(0, (.t 42))],
  .op (some 4) (.mv (.t 44))])
 .skip)))
 (.reg [.op (some 24) (.mv (.t 6)),
  .op (some 25) (.binI .add (.t 24) (.v (.lit (.int .i64 (1))))),
  .op (some 6) (.mv (.t 25))])))))))
 (.reg [.op (some 16) (.mv (.t 5)),
  .op (some 17) (.binI .add (.t 16) (.v (.lit (.int .i64 (1))))),
  .op (some 5) (.mv (.t 17))]))))))
 (.seq (.reg [.op (some 45) (.mv (.t 4)),
  .op (some 2) (.mv (.t 45)),
  .op (some 3) (.mv (.v (.lit (.bool true))))])
 .ret)))))
def rs32 : List RR := [.tmp 2, .tmp 3]
def cut32 : Nat → Nat := fun id => if id = 10 then 27 else 0
theorem k32 : (Try.f32.body.bind fun c => comp Try.prog Try.f32.ntmps cut32 c) = some r32 := by kernel_rfl
theorem by32 {W0 : World} {σ : List Blk} {args : List AV} {K : Cont} (hn : args.length ≤ 46) (h : rW Try.prog W0 σ.length r32 (initFr args) σ (finP W0 rs32 σ.length K)) : ACall Try.prog W0 32 args σ K :=
  ACall.introR mixed Try.func32 (by kernel_rfl) k32 (by kernel_rfl) hn h
def r33 : RC := (.seq (.reg [.op (some 2) (.mv (.v (.lit (.slice none 0 0))))])
 (.seq (.reg [.op (some 5) (.mv (.t 0)),
  .op (some 6) (.lenL (.t 5)),
  .op (some 7) (.mkslice 104 9 72 (List.replicate 9 (.lit (.int .i64 (0)))) (.t 6) (.t 6)),
  .op (some 3) (.mv (.t 7))])
 (.seq (.seq (.reg [.op (some 4) (.mv (.v (.lit (.int .i64 (0)))))])
 (.block 0 (.loop (.seq (.seq (.reg [.op (some 8) (.mv (.t 4)),
  .op (some 9) (.mv (.t 0)),
  .op (some 10) (.lenL (.t 9)),
  .op (some 11) (.binI .lss (.t 8) (.t 10))])
 (.cond (.t 11)
 .skip
 (.exit 0)))
 (.seq (.block 1 (.reg [.op (some 14) (.mv (.t 3)),
  .op (some 15) (.mv (.t 4)),
  .op (some 16) (.mv (.t 0)),
  .op (some 17) (.mv (.t 4)),
  .op (some 18) (.iaddrS 9 (.t 16) (.t 17)),
  .op (some 19) (.load 9 true (.t 18)),
  .op (some 20) (.call (.v (.lit (.func (.func 63) #[] #[]))) [(.t 19)]),
  .op (some 21) (.iaddrS 9 (.t 14) (.t 15)),
  .op none (.store 9 (.t 21) (.t 20))]))
 (.reg [.op (some 12) (.mv (.t 4)),
  .op (some 13) (.binI .add (.t 12) (.v (.lit (.int .i64 (1))))),
  .op (some 4) (.mv (.t 13))]))))))
 (.seq (.reg [.op (some 22) (.mv (.t 3)),
  .op (some 2) (.mv (.t 22))])
 .ret))))
def rs33 : List RR := [.tmp 2]
def cut33 : Nat → Nat := fun id => 0
theorem k33 : (Try.f33.body.bind fun c => comp Try.prog Try.f33.ntmps cut33 c) = some r33 := by kernel_rfl
theorem by33 {W0 : World} {σ : List Blk} {args : List AV} {K : Cont} (hn : args.length ≤ 23) (h : rW Try.prog W0 σ.length r33 (initFr args) σ (finP W0 rs33 σ.length K)) : ACall Try.prog W0 33 args σ K :=
  ACall.introR mixed Try.func33 (by kernel_rfl) k33 (by kernel_rfl) hn h
def r34 : RC := (.seq (.reg [.op (some 2) (.mv (.v (.lit (.slice none 0 0)))),
  .op (some 3) (.mv (.v (.lit (.bool false))))])
 (.seq (.reg [.op (some 10) (.mv (.t 0)),
  .op (some 11) (.call (.v (.lit (.func (.func 64) #[] #[]))) [(.t 10)]),
  .op (some 9) (.mv (.t 11)),
  .op (some 12) (.ext (.t 9) 0),
  .op (some 13) (.ext (.t 9) 1),
  .op (some 4) (.mv (.t 12)),
  .op (some 5) (.mv (.t 13))])
 (.seq (.seq (.reg [.op (some 14) (.mv (.t 5)),
  .op (some 15) (.un .not (.t 14))])
 (.cond (.t 15)
 (.seq (.reg [.op (some 2) (.mv (.v (.lit (.slice none 0 0)))),
  .op (some 3) (.mv (.v (.lit (.bool false))))])
 .ret)
 .skip))
 (.seq (.reg [.op (some 16) (.bslice 102 2 0 [(.lit (.int .i64 (0))), (.lit (.int .i64 (0)))] []),
  .op (some 6) (.mv (.t 16))])
 (.seq (.seq (.reg [.op (some 17) (.mv (.t 4)),
  .op (some 18) (.lenL (.t 17)),
  .op (some 19) (.mv (.v (.lit (.int .i64 (0)))))])
 (.block 0 (.loop (.seq (.reg [.op (some 20) (.binI .lss (.t 19) (.t 18))])
 (.seq (.cond (.t 20)
 .skip
 (.exit 0))
 (.seq (.block 1 (.seq (.reg [.op (some 21) (.mv (.t 19)),
  .op (some 7) (.mv (.t 21))])
 (.seq (.reg [.op (some 22) (.mv (.t 7)),
  .op (some 23) (.binI .add (.t 22) (.v (.lit (.int .i64 (1))))),
  .op (some 8) (.mv (.t 23))])
 (.block 2 (.loop (.seq (.seq (.reg [.op (some 24) (.mv (.t 8)),
  .op (some 25) (.mv (.t 4)),
  .op (some 26) (.lenL (.t 25)),
  .op (some 27) (.binI .lss (.t 24) (.t 26))])
 (.cond (.t 27)
 .skip
 (.exit 2)))
 (.seq (.block 3 (.seq (.draw [((some 30), (.mv (.t 4))), ((some 31), (.mv (.t 7))), ((some 32), (.iaddrS 2 (.t 30) (.t 31))), ((some 33), (.faddr 0 (.t 32))), ((some 34), (.load 1 false (.t 33))), ((some 35), (.mv (.t 4))), ((some 36), (.mv (.t 8))), ((some 37), (.iaddrS 2 (.t 35) (.t 36))), ((some 38), (.faddr 0 (.t 37))), ((some 39), (.load 1 false (.t 38))), ((some 40), (.binI .and (.t 34) (.t 39))), ((some 41), (.binI .neq (.t 40) (.v (.lit (.int .u64 (0))))))] [])
 (.cond (.t 41)
 (.reg [.op (some 42) (.mv (.t 6)),
  .op (some 43) (.mv (.t 7)),
  .op (some 44) (.mv (.t 8)),
  .op (some 45) (.build [(.lit (.int .i64 (0))), (.lit (.int .i64 (0)))] [((0, 1), (.t 43)), ((1, 1), (.t 44))]),
  .app (some 47) 46 102 2 16 (.t 42) 1 [(.lit (.int .i64 (0))), (.lit (.int .i64 (0)))] [(0, (.t 45))],
  .op (some 6) (.mv (.t 47))])
 .skip)))
 (.reg [.op (some 28) (.mv (.t 8)),
  .op (some 29) (.binI .add (.t 28) (.v (.lit (.int .i64 (1))))),
  .op (some 8) (.mv (.t 29))]))))))))
 (.reg [.op (some 48) (.binI .add (.t 19) (.v (.lit (.int .i64 (1))))),
  .op (some 19) (.mv (.t 48))])))))))
 (.seq (.reg [.op (some 49) (.mv (.t 6)),
  .op (some 2) (.mv (.t 49)),
  .op (some 3) (.mv (.v (.lit (.bool true))))])
 .ret))))))
def rs34 : List RR := [.tmp 2, .tmp 3]
def cut34 : Nat → Nat := fun id => if id = 11 then 25 else 0
theorem k34 : (Try.f34.body.bind fun c => comp Try.prog Try.f34.ntmps cut34 c) = some r34 := by kernel_rfl
theorem by34 {W0 : World} {σ : List Blk} {args : List AV} {K : Cont} (hn : args.length ≤ 50) (h : rW Try.prog W0 σ.length r34 (initFr args) σ (finP W0 rs34 σ.length K)) : ACall Try.prog W0 34 args σ K :=
  ACall.introR mixed Try.func34 (by kernel_rfl) k34 (by kernel_rfl) hn h
def r35 : RC := (.seq (.reg [.op (some 4) (.mv (.v (.lit (.bool false))))])
 (.seq (.seq (.reg [.op (some 6) (.mv (.t 0)),
  .op (some 7) (.lenL (.t 6)),
  .op (some 8) (.mv (.t 1)),
  .op (some 9) (.lenL (.t 8)),
  .op (some 10) (.binI .neq (.t 7) (.t 9))])
 (.cond (.t 10)
 (.seq (.reg [.op (some 4) (.mv (.v (.lit (.bool false))))])
 .ret)
 .skip))
 (.seq (.seq (.reg [.op (some 5) (.mv (.v (.lit (.int .i64 (0)))))])
 (.block 0 (.loop (.seq (.seq (.reg [.op (some 11) (.mv (.t 5)),
  .op (some 12) (.mv (.t 0)),
  .op (some 13) (.lenL (.t 12)),
  .op (some 14) (.binI .lss (.t 11) (.t 13))])
 (.cond (.t 14)
 .skip
 (.exit 0)))
 (.seq (.block 1 (.seq (.draw [((some 17), (.mv (.t 0))), ((some 18), (.mv (.t 5))), ((some 19), (.iaddrS 2 (.t 17) (.t 18))), ((some 20), (.load 2 true (.t 19))), ((some 21), (.mv (.t 1))), ((some 22), (.mv (.t 5))), ((some 23), (.iaddrS 2 (.t 21) (.t 22))), ((some 24), (.load 2 true (.t 23))), ((some 25), (.call (.v (.lit (.func (.func 65) #[] #[]))) [(.t 20), (.t 24)])), ((some 26), (.un .not (.t 25)))] [])
 (.cond (.t 26)
 (.seq (.reg [.op (some 4) (.mv (.v (.lit (.bool false))))])
 .ret)
 .skip)))
 (.reg [.op (some 15) (.mv (.t 5)),
  .op (some 16) (.binI .add (.t 15) (.v (.lit (.int .i64 (1))))),
  .op (some 5) (.mv (.t 16))]))))))
 (.seq (.reg [.op (some 4) (.mv (.v (.lit (.bool true))))])
 .ret))))
def rs35 : List RR := [.tmp 4]
def cut35 : Nat → Nat := fun id => if id = 6 then 21 else 0
theorem k35 : (Try.f35.body.bind fun c => comp Try.prog Try.f35.ntmps cut35 c) = some r35 := by kernel_rfl
theorem by35 {W0 : World} {σ : List Blk} {args : List AV} {K : Cont} (hn : args.length ≤ 27) (h : rW Try.prog W0 σ.length r35 (initFr args) σ (finP W0 rs35 σ.length K)) : ACall Try.prog W0 35 args σ K :=
  ACall.introR mixed Try.func35 (by kernel_rfl) k35 (by kernel_rfl) hn h
def r36 : RC := (.seq (.reg [.op (some 4) (.mv (.v (.lit (.bool false))))])
 (.seq (.seq (.reg [.op (some 6) (.mv (.t 0)),
  .op (some 7) (.lenL (.t 6)),
  .op (some 8) (.mv (.t 1)),
  .op (some 9) (.lenL (.t 8)),
  .op (some 10) (.binI .neq (.t 7) (.t 9))])
 (.cond (.t 10)
 (.seq (.reg [.op (some 4) (.mv (.v (.lit (.bool false))))])
 .ret)
 .skip))
 (.seq (.seq (.reg [.op (some 5) (.mv (.v (.lit (.int .i64 (0)))))])
 (.block 0 (.loop (.seq (.seq (.reg [.op (some 11) (.mv (.t 5)),
  .op (some 12) (.mv (.t 0)),
  .op (some 13) (.lenL (.t 12)),
  .op (some 14) (.binI .lss (.t 11) (.t 13))])
 (.cond (.t 14)
 .skip
 (.exit 0)))
 (.seq (.block 1 (.seq (.draw [((some 17), (.mv (.t 0))), ((some 18), (.mv (.t 5))), ((some 19), (.iaddrS 9 (.t 17) (.t 18))), ((some 20), (.load 9 true (.t 19))), ((some 21), (.mv (.t 1))), ((some 22), (.mv (.t 5))), ((some 23), (.iaddrS 9 (.t 21) (.t 22))), ((some 24), (.load 9 true (.t 23))), ((some 25), (.call (.v (.lit (.func (.func 66) #[] #[]))) [(.t 20), (.t 24)])), ((some 26), (.un .not (.t 25)))] [])
 (.cond (.t 26)
 (.seq (.reg [.op (some 4) (.mv (.v (.lit (.bool false))))])
 .ret)
 .skip)))
 (.reg [.op (some 15) (.mv (.t 5)),
  .op (some 16) (.binI .add (.t 15) (.v (.lit (.int .i64 (1))))),
  .op (some 5) (.mv (.t 16))]))))))
 (.seq (.reg [.op (some 4) (.mv (.v (.lit (.bool true))))])
 .ret))))
def rs36 : List RR := [.tmp 4]
def cut36 : Nat → Nat := fun id => if id = 6 then 21 else 0
theorem k36 : (Try.f36.body.bind fun c => comp Try.prog Try.f36.ntmps cut36 c) = some r36 := by kernel_rfl
theorem by36 {W0 : World} {σ : List Blk} {args : List AV} {K : Cont} (hn : args.length ≤ 27) (h : rW Try.prog W0 σ.length r36 (initFr args) σ (finP W0 rs36 σ.length K)) : ACall Try.prog W0 36 args σ K :=
  ACall.introR mixed Try.func36 (by kernel_rfl) k36 (by kernel_rfl) hn h
def r37 : RC := (.seq (.reg [.op (some 4) (.mv (.v (.lit (.int .i64 (0)))))])
 (.seq (.seq (.reg [.op (some 5) (.mv (.v (.lit (.int .i64 (0)))))])
 (.block 0 (.loop (.seq (.seq (.reg [.op (some 8) (.mv (.t 5)),
  .op (some 9) (.mv (.t 0)),
  .op (some 10) (.lenL (.t 9)),
  .op (some 11) (.binI .lss (.t 8) (.t 10))])
 (.cond (.t 11)
 .skip
 (.exit 0)))
 (.seq (.block 1 (.seq (.reg [.op (some 14) (.mv (.t 0)),
  .op (some 15) (.mv (.t 5)),
  .op (some 16) (.mv (.t 1)),
  .op (some 17) (.iaddrS 9 (.t 14) (.t 15)),
  .op (some 18) (.faddr 0 (.t 17)),
  .op none (.store 1 (.t 18) (.t 16))])
 (.seq (.reg [.op (some 19) (.mv (.t 1)),
  .op (some 20) (.binI .add (.t 19) (.v (.lit (.int .i64 (1))))),
  .op (some 1) (.mv (.t 20))])
 (.seq (.seq (.reg [.op (some 6) (.mv (.v (.lit (.int .i64 (0)))))])
 (.block 2 (.loop (.seq (.seq (.reg [.op (some 21) (.mv (.t 6)),
  .op (some 22) (.binI .lss (.t 21) (.v (.lit (.int .i64 (6)))))])
 (.cond (.t 22)
 .skip
 (.exit 2)))
 (.seq (.block 3 (.seq (.reg [.op (some 25) (.mv (.t 0)),
  .op (some 26) (.mv (.t 5)),
  .op (some 27) (.mv (.t 6)),
  .op (some 28) (.mv (.t 1)),
  .op (some 29) (.iaddrS 9 (.t 25) (.t 26)),
  .op (some 30) (.faddr 1 (.t 29)),
  .op (some 31) (.faddr 0 (.t 30)),
  .op (some 32) (.iaddrA 6 1 (.t 31) (.t 27)),
  .op none (.store 1 (.t 32) (.t 28))])
 (.reg [.op (some 33) (.mv (.t 1)),
  .op (some 34) (.binI .add (.t 33) (.v (.lit (.int .i64 (1))))),
  .op (some 1) (.mv (.t 34))])))
 (.reg [.op (some 23) (.mv (.t 6)),
  .op (some 24) (.binI .add (.t 23) (.v (.lit (.int .i64 (1))))),
  .op (some 6) (.mv (.t 24))]))))))
 (.seq (.reg [.op (some 7) (.mv (.v (.lit (.int .i64 (0)))))])
 (.block 4 (.loop (.seq (.seq (.reg [.op (some 35) (.mv (.t 7)),
  .op (some 36) (.binI .lss (.t 35) (.v (.lit (.int .i64 (2)))))])
 (.cond (.t 36)
 .skip
 (.exit 4)))
 (.seq (.block 5 (.seq (.reg [.op (some 39) (.mv (.t 0)),
  .op (some 40) (.mv (.t 5)),
  .op (some 41) (.mv (.t 7)),
  .op (some 42) (.mv (.t 1)),
  .op (some 43) (.iaddrS 9 (.t 39) (.t 40)),
  .op (some 44) (.faddr 7 (.t 43)),
  .op (some 45) (.iaddrA 2 1 (.t 44) (.t 41)),
  .op none (.store 1 (.t 45) (.t 42))])
 (.reg [.op (some 46) (.mv (.t 1)),
  .op (some 47) (.binI .add (.t 46) (.v (.lit (.int .i64 (1))))),
  .op (some 1) (.mv (.t 47))])))
 (.reg [.op (some 37) (.mv (.t 7)),
  .op (some 38) (.binI .add (.t 37) (.v (.lit (.int .i64 (1))))),
  .op (some 7) (.mv (.t 38))]))))))))))
 (.reg [.op (some 12) (.mv (.t 5)),
  .op (some 13) (.binI .add (.t 12) (.v (.lit (.int .i64 (1))))),
  .op (some 5) (.mv (.t 13))]))))))
 (.seq (.reg [.op (some 48) (.mv (.t 1)),
  .op (some 4) (.mv (.t 48))])
 .ret)))
def rs37 : List RR := [.tmp 4]
def cut37 : Nat → Nat := fun id => 0
theorem k37 : (Try.f37.body.bind fun c => comp Try.prog Try.f37.ntmps cut37 c) = some r37 := by kernel_rfl
theorem by37 {W0 : World} {σ : List Blk} {args : List AV} {K : Cont} (hn : args.length ≤ 49) (h : rW Try.prog W0 σ.length r37 (initFr args) σ (finP W0 rs37 σ.length K)) : ACall Try.prog W0 37 args σ K :=
  ACall.introR mixed Try.func37 (by kernel_rfl) k37 (by kernel_rfl) hn h
def r38 : RC := (.seq (.reg [.op (some 4) (.mv (.v (.lit (.int .i64 (0)))))])
 (.seq (.seq (.reg [.op (some 5) (.mv (.v (.lit (.int .i64 (0)))))])
 (.block 0 (.loop (.seq (.seq (.reg [.op (some 7) (.mv (.t 5)),
  .op (some 8) (.mv (.t 0)),
  .op (some 9) (.lenL (.t 8)),
  .op (some 10) (.binI .lss (.t 7) (.t 9))])
 (.cond (.t 10)
 .skip
 (.exit 0)))
 (.seq (.block 1 (.seq (.reg [.op (some 6) (.mv (.v (.lit (.int .i64 (0)))))])
 (.block 2 (.loop (.seq (.seq (.reg [.op (some 13) (.mv (.t 6)),
  .op (some 14) (.binI .lss (.t 13) (.v (.lit (.int .i64 (2)))))])
 (.cond (.t 14)
 .skip
 (.exit 2)))
 (.seq (.block 3 (.seq (.reg [.op (some 17) (.mv (.t 0)),
  .op (some 18) (.mv (.t 5)),
  .op (some 19) (.mv (.t 6)),
  .op (some 20) (.mv (.t 1)),
  .op (some 21) (.iaddrS 2 (.t 17) (.t 18)),
  .op (some 22) (.iaddrA 2 1 (.t 21) (.t 19)),
  .op none (.store 1 (.t 22) (.t 20))])
 (.reg [.op (some 23) (.mv (.t 1)),
  .op (some 24) (.binI .add (.t 23) (.v (.lit (.int .i64 (1))))),
  .op (some 1) (.mv (.t 24))])))
 (.reg [.op (some 15) (.mv (.t 6)),
  .op (some 16) (.binI .add (.t 15) (.v (.lit (.int .i64 (1))))),
  .op (some 6) (.mv (.t 16))])))))))
 (.reg [.op (some 11) (.mv (.t 5)),
  .op (some 12) (.binI .add (.t 11) (.v (.lit (.int .i64 (1))))),
  .op (some 5) (.mv (.t 12))]))))))
 (.seq (.reg [.op (some 25) (.mv (.t 1)),
  .op (some 4) (.mv (.t 25))])
 .ret)))
def rs38 : List RR := [.tmp 4]
def cut38 : Nat → Nat := fun id => 0
theorem k38 : (Try.f38.body.bind fun c => comp Try.prog Try.f38.ntmps cut38 c) = some r38 := by kernel_rfl
theorem by38 {W0 : World} {σ : List Blk} {args : List AV} {K : Cont} (hn : args.length ≤ 26) (h : rW Try.prog W0 σ.length r38 (initFr args) σ (finP W0 rs38 σ.length K)) : ACall Try.prog W0 38 args σ K :=
  ACall.introR mixed Try.func38 (by kernel_rfl) k38 (by kernel_rfl) hn h
def r39 : RC := (.seq (.reg [.op (some 4) (.mv (.v (.lit (.int .i64 (0)))))])
 (.seq (.seq (.reg [.op (some 5) (.mv (.v (.lit (.int .i64 (0)))))])
 (.block 0 (.loop (.seq (.seq (.reg [.op (some 7) (.mv (.t 5)),
  .op (some 8) (.mv (.t 0)),
  .op (some 9) (.lenL (.t 8)),
  .op (some 10) (.binI .lss (.t 7) (.t 9))])
 (.cond (.t 10)
 .skip
 (.exit 0)))
 (.seq (.block 1 (.seq (.reg [.op (some 6) (.mv (.v (.lit (.int .i64 (0)))))])
 (.block 2 (.loop (.seq (.seq (.reg [.op (some 13) (.mv (.t 6)),
  .op (some 14) (.binI .lss (.t 13) (.v (.lit (.int .i64 (2)))))])
 (.cond (.t 14)
 .skip
 (.exit 2)))
 (.seq (.block 3 (.seq (.seq (.reg [.op (some 17) (.mv (.t 0)),
  .op (some 18) (.mv (.t 5)),
  .op (some 19) (.mv (.t 6)),
  .op (some 20) (.iaddrS 2 (.t 17) (.t 18)),
  .op (some 21) (.iaddrA 2 1 (.t 20) (.t 19)),
  .op (some 22) (.load 1 false (.t 21)),
  .op (some 23) (.mv (.t 1)),
  .op (some 24) (.binI .neq (.t 22) (.t 23))])
 (.cond (.t 24)
 (.seq (.reg [.op (some 4) (.mv (.v (.lit (.int .i64 (-1)))))])
 .ret)
 .skip))
 (.reg [.op (some 25) (.mv (.t 1)),
  .op (some 26) (.binI .add (.t 25) (.v (.lit (.int .i64 (1))))),
  .op (some 1) (.mv (.t 26))])))
 (.reg [.op (some 15) (.mv (.t 6)),
  .op (some 16) (.binI .add (.t 15) (.v (.lit (.int .i64 (1))))),
  .op (some 6) (.mv (.t 16))])))))))
 (.reg [.op (some 11) (.mv (.t 5)),
  .op (some 12) (.binI .add (.t 11) (.v (.lit (.int .i64 (1))))),
  .op (some 5) (.mv (.t 12))]))))))
 (.seq (.reg [.op (some 27) (.mv (.t 1)),
  .op (some 4) (.mv (.t 27))])
 .ret)))
def rs39 : List RR := [.tmp 4]
def cut39 : Nat → Nat := fun id => 0
theorem k39 : (Try.f39.body.bind fun c => comp Try.prog Try.f39.ntmps cut39 c) = some r39 := by kernel_rfl
theorem by39 {W0 : World} {σ : List Blk} {args : List AV} {K : Cont} (hn : args.length ≤ 28) (h : rW Try.prog W0 σ.length r39 (initFr args) σ (finP W0 rs39 σ.length K)) : ACall Try.prog W0 39 args σ K :=
  ACall.introR mixed Try.func39 (by kernel_rfl) k39 (by kernel_rfl) hn h
def r40 : RC := (.seq (.reg [.op (some 1) (.box 30 (.t 0)),
  .op (some 2) (.mv (.v (.lit (.bool false))))])
 (.seq (.reg [.op (some 3) (.faddr 0 (.t 1)),
  .op (some 4) (.load 6 true (.t 3)),
  .op (some 5) (.call (.v (.lit (.func (.func 42) #[] #[]))) [(.t 4)]),
  .op (some 6) (.mv (.t 5)),
  .grp 6 true [((some 7), (.faddr 6 (.t 1))), ((some 8), (.load 6 true (.t 7))), ((some 9), (.call (.v (.lit (.func (.func 42) #[] #[]))) [(.t 8)]))],
  .op (some 10) (.pick (.t 6) (.t 9) (.v (.lit (.bool false)))),
  .op (some 11) (.mv (.t 10)),
  .grp 11 true [((some 12), (.faddr 12 (.t 1))), ((some 13), (.load 1 false (.t 12))), ((some 14), (.call (.v (.lit (.func (.func 67) #[] #[]))) [(.t 13), (.v (.lit (.int .i64 (0)))), (.v (.lit (.int .i64 (1000))))]))],
  .op (some 15) (.pick (.t 11) (.t 14) (.v (.lit (.bool false)))),
  .op (some 16) (.mv (.t 15)),
  .grp 16 true [((some 17), (.faddr 13 (.t 1))), ((some 18), (.load 1 false (.t 17))), ((some 19), (.call (.v (.lit (.func (.func 67) #[] #[]))) [(.t 18), (.v (.lit (.int .i64 (0)))), (.v (.lit (.int .i64 (1000))))]))],
  .op (some 20) (.pick (.t 16) (.t 19) (.v (.lit (.bool false)))),
  .op (some 2) (.mv (.t 20))])
 .ret))
def rs40 : List RR := [.tmp 2]
def cut40 : Nat → Nat := fun id => 0
theorem k40 : (Try.f40.body.bind fun c => comp Try.prog Try.f40.ntmps cut40 c) = some r40 := by kernel_rfl
theorem by40 {W0 : World} {σ : List Blk} {args : List AV} {K : Cont} (hn : args.length ≤ 21) (h : rW Try.prog W0 σ.length r40 (initFr args) σ (finP W0 rs40 σ.length K)) : ACall Try.prog W0 40 args σ K :=
  ACall.introR mixed Try.func40 (by kernel_rfl) k40 (by kernel_rfl) hn h
def r41 : RC := (.seq (.reg [.op (some 1) (.box 28 (.t 0)),
  .op (some 2) (.mv (.v (.lit (.bool false))))])
 (.seq (.reg [.op (some 6) (.load 6 true (.t 1)),
  .op (some 7) (.call (.v (.lit (.func (.func 68) #[] #[]))) [(.t 6)]),
  .op (some 5) (.mv (.t 7)),
  .op (some 8) (.ext (.t 5) 0),
  .op (some 9) (.ext (.t 5) 1),
  .op (some 3) (.mv (.t 8)),
  .op (some 4) (.mv (.t 9))])
 (.seq (.reg [.op (some 10) (.mv (.t 4)),
  .op (some 2) (.mv (.t 10))])
 .ret)))
def rs41 : List RR := [.tmp 2]
def cut41 : Nat → Nat := fun id => 0
theorem k41 : (Try.f41.body.bind fun c => comp Try.prog Try.f41.ntmps cut41 c) = some r41 := by kernel_rfl
theorem by41 {W0 : World} {σ : List Blk} {args : List AV} {K : Cont} (hn : args.length ≤ 11) (h : rW Try.prog W0 σ.length r41 (initFr args) σ (finP W0 rs41 σ.length K)) : ACall Try.prog W0 41 args σ K :=
  ACall.introR mixed Try.func41 (by kernel_rfl) k41 (by kernel_rfl) hn h
def r42 : RC := (.seq (.reg [.op (some 1) (.box 28 (.t 0)),
  .op (some 2) (.mv (.v (.lit (.bool false))))])
 (.seq (.seq (.reg [.op (some 3) (.mv (.v (.lit (.int .i64 (0)))))])
 (.block 0 (.loop (.seq (.seq (.reg [.op (some 4) (.mv (.t 3)),
  .op (some 5) (.binI .lss (.t 4) (.v (.lit (.int .i64 (6)))))])
 (.cond (.t 5)
 .skip
 (.exit 0)))
 (.seq (.block 1 (.seq (.reg [.op (some 8) (.mv (.t 3)),
  .op (some 9) (.faddr 0 (.t 1)),
  .op (some 10) (.iaddrA 6 1 (.t 9) (.t 8)),
  .op (some 11) (.load 1 false (.t 10)),
  .op (some 12) (.call (.v (.lit (.func (.func 67) #[] #[]))) [(.t 11), (.v (.lit (.int .i64 (0)))), (.v (.lit (.int .i64 (63))))]),
  .op (some 13) (.un .not (.t 12))])
 (.cond (.t 13)
 (.seq (.reg [.op (some 2) (.mv (.v (.lit (.bool false))))])
 .ret)
 .skip)))
 (.reg [.op (some 6) (.mv (.t 3)),
  .op (some 7) (.binI .add (.t 6) (.v (.lit (.int .i64 (1))))),
  .op (some 3) (.mv (.t 7))]))))))
 (.seq (.reg [.op (some 2) (.mv (.v (.lit (.bool true))))])
 .ret)))
def rs42 : List RR := [.tmp 2]
def cut42 : Nat → Nat := fun id => 0
theorem k42 : (Try.f42.body.bind fun c => comp Try.prog Try.f42.ntmps cut42 c) = some r42 := by kernel_rfl
theorem by42 {W0 : World} {σ : List Blk} {args : List AV} {K : Cont} (hn : args.length ≤ 14) (h : rW Try.prog W0 σ.length r42 (initFr args) σ (finP W0 rs42 σ.length K)) : ACall Try.prog W0 42 args σ K :=
  ACall.introR mixed Try.func42 (by kernel_rfl) k42 (by kernel_rfl) hn h
def r43 : RC := (.seq (.reg [.op (some 1) (.box 22 (.t 0)),
  .op (some 2) (.alloc 22 (List.replicate 6 (.lit (.int .i64 (0)))))])
 (.seq (.reg [.op (some 3) (.alloc 22 (List.replicate 6 (.lit (.int .i64 (0)))))])
 (.seq (.seq (.reg [.op (some 4) (.mv (.v (.lit (.int .i64 (0)))))])
 (.block 0 (.loop (.seq (.seq (.reg [.op (some 5) (.mv (.t 4)),
  .op (some 6) (.binI .lss (.t 5) (.v (.lit (.int .i64 (6)))))])
 (.cond (.t 6)
 .skip
 (.exit 0)))
 (.seq (.block 1 (.reg [.op (some 9) (.mv (.t 4)),
  .op (some 10) (.mv (.t 4)),
  .op (some 11) (.iaddrA 6 1 (.t 1) (.t 10)),
  .op (some 12) (.load 1 false (.t 11)),
  .op (some 13) (.iaddrA 6 1 (.t 3) (.t 9)),
  .op none (.store 1 (.t 13) (.t 12))]))
 (.reg [.op (some 7) (.mv (.t 4)),
  .op (some 8) (.binI .add (.t 7) (.v (.lit (.int .i64 (1))))),
  .op (some 4) (.mv (.t 8))]))))))
 (.seq (.reg [.op (some 14) (.load 6 true (.t 3)),
  .op none (.store 6 (.t 2) (.t 14))])
 .ret))))
def rs43 : List RR := [.cell 2 6 true]
def cut43 : Nat → Nat := fun id => 0
theorem k43 : (Try.f43.body.bind fun c => comp Try.prog Try.f43.ntmps cut43 c) = some r43 := by kernel_rfl
theorem by43 {W0 : World} {σ : List Blk} {args : List AV} {K : Cont} (hn : args.length ≤ 15) (h : rW Try.prog W0 σ.length r43 (initFr args) σ (finP W0 rs43 σ.length K)) : ACall Try.prog W0 43 args σ K :=
  ACall.introR mixed Try.func43 (by kernel_rfl) k43 (by kernel_rfl) hn h
def r44 : RC := (.seq (.reg [.op (some 2) (.box 28 (.t 0)),
  .op (some 3) (.box 28 (.t 1)),
  .op (some 4) (.mv (.v (.lit (.bool false))))])
 (.seq (.seq (.reg [.op (some 5) (.faddr 0 (.t 2)),
  .op (some 6) (.load 6 true (.t 5)),
  .op (some 7) (.faddr 0 (.t 3)),
  .op (some 8) (.load 6 true (.t 7)),
  .op (some 9) (.call (.v (.lit (.func (.func 69) #[] #[]))) [(.t 6), (.t 8)]),
  .op (some 10) (.un .not (.t 9))])
 (.cond (.t 10)
 (.seq (.reg [.op (some 4) (.mv (.v (.lit (.bool false))))])
 .ret)
 .skip))
 (.seq (.reg [.op (some 4) (.mv (.v (.lit (.bool true))))])
 .ret)))
def rs44 : List RR := [.tmp 4]
def cut44 : Nat → Nat := fun id => 0
theorem k44 : (Try.f44.body.bind fun c => comp Try.prog Try.f44.ntmps cut44 c) = some r44 := by kernel_rfl
theorem by44 {W0 : World} {σ : List Blk} {args : List AV} {K : Cont} (hn : args.length ≤ 11) (h : rW Try.prog W0 σ.length r44 (initFr args) σ (finP W0 rs44 σ.length K)) : ACall Try.prog W0 44 args σ K :=
  ACall.introR mixed Try.func44 (by kernel_rfl) k44 (by kernel_rfl) hn h
def r45 : RC := (.seq (.reg [.op (some 2) (.box 39 (.t 0)),
  .op (some 3) (.box 39 (.t 1)),
  .op (some 4) (.mv (.v (.lit (.bool false))))])
 (.seq (.seq (.reg [.op (some 5) (.faddr 0 (.t 2)),
  .op (some 6) (.load 1 false (.t 5)),
  .op (some 7) (.faddr 0 (.t 3)),
  .op (some 8) (.load 1 false (.t 7)),
  .op (some 9) (.binS .neq (.t 6) (.t 8))])
 (.cond (.t 9)
 (.seq (.reg [.op (some 4) (.mv (.v (.lit (.bool false))))])
 .ret)
 .skip))
 (.seq (.seq (.reg [.op (some 10) (.faddr 1 (.t 2)),
  .op (some 11) (.load 1 false (.t 10)),
  .op (some 12) (.faddr 1 (.t 3)),
  .op (some 13) (.load 1 false (.t 12)),
  .op (some 14) (.binS .neq (.t 11) (.t 13))])
 (.cond (.t 14)
 (.seq (.reg [.op (some 4) (.mv (.v (.lit (.bool false))))])
 .ret)
 .skip))
 (.seq (.seq (.reg [.op (some 15) (.faddr 2 (.t 2)),
  .op (some 16) (.load 1 false (.t 15)),
  .op (some 17) (.faddr 2 (.t 3)),
  .op (some 18) (.load 1 false (.t 17)),
  .op (some 19) (.binI .neq (.t 16) (.t 18))])
 (.cond (.t 19)
 (.seq (.reg [.op (some 4) (.mv (.v (.lit (.bool false))))])
 .ret)
 .skip))
 (.seq (.reg [.op (some 4) (.mv (.v (.lit (.bool true))))])
 .ret)))))
def rs45 : List RR := [.tmp 4]
def cut45 : Nat → Nat := fun id => 0
theorem k45 : (Try.f45.body.bind fun c => comp Try.prog Try.f45.ntmps cut45 c) = some r45 := by kernel_rfl
theorem by45 {W0 : World} {σ : List Blk} {args : List AV} {K : Cont} (hn : args.length ≤ 20) (h : rW Try.prog W0 σ.length r45 (initFr args) σ (finP W0 rs45 σ.length K)) : ACall Try.prog W0 45 args σ K :=
  ACall.introR mixed Try.func45 (by kernel_rfl) k45 (by kernel_rfl) hn h
def r46 : RC := (.seq (.reg [.op (some 1) (.box 28 (.t 0)),
  .op (some 2) (.mv (.v (.lit (.int .i64 (0)))))])
 (.seq (.reg [.op (some 3) (.mv (.v (.lit (.int .i64 (0)))))])
 (.seq (.seq (.reg [.op (some 4) (.mv (.v (.lit (.int .i64 (0)))))])
 (.block 0 (.loop (.seq (.seq (.reg [.op (some 6) (.mv (.t 4)),
  .op (some 7) (.binI .lss (.t 6) (.v (.lit (.int .i64 (6)))))])
 (.cond (.t 7)
 .skip
 (.exit 0)))
 (.seq (.block 1 (.seq (.reg [.op (some 10) (.mv (.t 4)),
  .op (some 11) (.faddr 0 (.t 1)),
  .op (some 12) (.iaddrA 6 1 (.t 11) (.t 10)),
  .op (some 13) (.load 1 false (.t 12)),
  .op (some 5) (.mv (.t 13))])
 (.block 2 (.loop (.seq (.seq (.reg [.op (some 14) (.mv (.t 5)),
  .op (some 15) (.binI .gtr (.t 14) (.v (.lit (.int .i64 (0)))))])
 (.cond (.t 15)
 .skip
 (.exit 2)))
 (.seq (.block 3 (.reg [.op (some 18) (.mv (.t 3)),
  .op (some 19) (.mv (.t 5)),
  .op (some 20) (.binI .rem (.t 19) (.v (.lit (.int .i64 (2))))),
  .op (some 21) (.binI .add (.t 18) (.t 20)),
  .op (some 3) (.mv (.t 21))]))
 (.reg [.op (some 16) (.mv (.t 5)),
  .op (some 17) (.binI .quo (.t 16) (.v (.lit (.int .i64 (2))))),
  .op (some 5) (.mv (.t 17))])))))))
 (.reg [.op (some 8) (.mv (.t 4)),
  .op (some 9) (.binI .add (.t 8) (.v (.lit (.int .i64 (1))))),
  .op (some 4) (.mv (.t 9))]))))))
 (.seq (.reg [.op (some 22) (.mv (.t 3)),
  .op (some 2) (.mv (.t 22))])
 .ret))))
def rs46 : List RR := [.tmp 2]
def cut46 : Nat → Nat := fun id => 0
theorem k46 : (Try.f46.body.bind fun c => comp Try.prog Try.f46.ntmps cut46 c) = some r46 := by kernel_rfl
theorem by46 {W0 : World} {σ : List Blk} {args : List AV} {K : Cont} (hn : args.length ≤ 23) (h : rW Try.prog W0 σ.length r46 (initFr args) σ (finP W0 rs46 σ.length K)) : ACall Try.prog W0 46 args σ K :=
  ACall.introR mixed Try.func46 (by kernel_rfl) k46 (by kernel_rfl) hn h
def r47 : RC := (.seq (.reg [.op (some 2) (.box 28 (.t 0)),
  .op (some 3) (.box 28 (.t 1)),
  .op (some 4) (.alloc 28 (List.replicate 6 (.lit (.int .i64 (0)))))])
 (.seq (.seq (.reg [.op (some 5) (.mv (.v (.lit (.int .i64 (0)))))])
 (.block 0 (.loop (.seq (.seq (.reg [.op (some 6) (.mv (.t 5)),
  .op (some 7) (.binI .lss (.t 6) (.v (.lit (.int .i64 (6)))))])
 (.cond (.t 7)
 .skip
 (.exit 0)))
 (.seq (.block 1 (.quiet [.op (some 10) (.mv (.t 5)),
  .op (some 11) (.mv (.t 5)),
  .op (some 12) (.faddr 0 (.t 2)),
  .op (some 13) (.iaddrA 6 1 (.t 12) (.t 11)),
  .op (some 14) (.load 1 false (.t 13)),
  .op (some 15) (.mv (.t 5)),
  .op (some 16) (.faddr 0 (.t 3)),
  .op (some 17) (.iaddrA 6 1 (.t 16) (.t 15)),
  .op (some 18) (.load 1 false (.t 17)),
  .op (some 19) (.binI .and (.t 14) (.t 18)),
  .op (some 20) (.faddr 0 (.t 2)),
  .op (some 21) (.iaddrA 6 1 (.t 20) (.t 10))] [.op none (.store 1 (.t 21) (.t 19))]))
 (.reg [.op (some 8) (.mv (.t 5)),
  .op (some 9) (.binI .add (.t 8) (.v (.lit (.int .i64 (1))))),
  .op (some 5) (.mv (.t 9))]))))))
 (.seq (.reg [.op (some 22) (.load 6 true (.t 2)),
  .op none (.store 6 (.t 4) (.t 22))])
 .ret)))
def rs47 : List RR := [.cell 4 6 true]
def cut47 : Nat → Nat := fun id => if id = 4 then 24 else 0
theorem k47 : (Try.f47.body.bind fun c => comp Try.prog Try.f47.ntmps cut47 c) = some r47 := by kernel_rfl
theorem by47 {W0 : World} {σ : List Blk} {args : List AV} {K : Cont} (hn : args.length ≤ 23) (h : rW Try.prog W0 σ.length r47 (initFr args) σ (finP W0 rs47 σ.length K)) : ACall Try.prog W0 47 args σ K :=
  ACall.introR mixed Try.func47 (by kernel_rfl) k47 (by kernel_rfl) hn h
def r48 : RC := (.seq (.reg [.op (some 2) (.box 28 (.t 0)),
  .op (some 3) (.box 28 (.t 1)),
  .op (some 4) (.mv (.v (.lit (.int .u64 (0))))),
  .op (some 5) (.mv (.v (.lit (.int .u64 (0))))),
  .op (some 6) (.mv (.v (.lit (.bool false))))])
 (.seq (.reg [.op (some 12) (.load 6 true (.t 2)),
  .op (some 13) (.call (.v (.lit (.func (.func 68) #[] #[]))) [(.t 12)]),
  .op (some 11) (.mv (.t 13)),
  .op (some 14) (.ext (.t 11) 0),
  .op (some 15) (.ext (.t 11) 1),
  .op (some 7) (.mv (.t 14)),
  .op (some 8) (.mv (.t 15))])
 (.seq (.reg [.op (some 17) (.load 6 true (.t 3)),
  .op (some 18) (.call (.v (.lit (.func (.func 68) #[] #[]))) [(.t 17)]),
  .op (some 16) (.mv (.t 18)),
  .op (some 19) (.ext (.t 16) 0),
  .op (some 20) (.ext (.t 16) 1),
  .op (some 9) (.mv (.t 19)),
  .op (some 10) (.mv (.t 20))])
 (.seq (.reg [.op (some 21) (.mv (.t 7)),
  .op (some 22) (.mv (.t 9)),
  .op (some 23) (.mv (.t 8)),
  .op (some 24) (.mv (.t 23)),
  .grp 24 true [((some 25), (.mv (.t 10)))],
  .op (some 26) (.pick (.t 24) (.t 25) (.v (.lit (.bool false)))),
  .op (some 4) (.mv (.t 21)),
  .op (some 5) (.mv (.t 22)),
  .op (some 6) (.mv (.t 26))])
 .ret))))
def rs48 : List RR := [.tmp 4, .tmp 5, .tmp 6]
def cut48 : Nat → Nat := fun id => 0
theorem k48 : (Try.f48.body.bind fun c => comp Try.prog Try.f48.ntmps cut48 c) = some r48 := by kernel_rfl
theorem by48 {W0 : World} {σ : List Blk} {args : List AV} {K : Cont} (hn : args.length ≤ 27) (h : rW Try.prog W0 σ.length r48 (initFr args) σ (finP W0 rs48 σ.length K)) : ACall Try.prog W0 48 args σ K :=
  ACall.introR mixed Try.func48 (by kernel_rfl) k48 (by kernel_rfl) hn h
def r49 : RC := (.seq (.reg [.op (some 2) (.mv (.v (.lit (.int .i64 (0)))))])
 (.seq (.reg [.op (some 3) (.mv (.t 0)),
  .op (some 4) (.call (.v (.lit (.func (.func 70) #[] #[]))) [(.t 3)]),
  .op (some 2) (.mv (.t 4))])
 .ret))
def rs49 : List RR := [.tmp 2]
def cut49 : Nat → Nat := fun id => 0
theorem k49 : (Try.f49.body.bind fun c => comp Try.prog Try.f49.ntmps cut49 c) = some r49 := by kernel_rfl
theorem by49 {W0 : World} {σ : List Blk} {args : List AV} {K : Cont} (hn : args.length ≤ 5) (h : rW Try.prog W0 σ.length r49 (initFr args) σ (finP W0 rs49 σ.length K)) : ACall Try.prog W0 49 args σ K :=
  ACall.introR mixed Try.func49 (by kernel_rfl) k49 (by kernel_rfl) hn h
def r50 : RC := (.seq (.reg [.op (some 1) (.box 51 (.t 0)),
  .op (some 2) (.mv (.v (.lit (.bool false))))])
 (.seq (.reg [.op (some 3) (.faddr 0 (.t 1)),
  .op (some 4) (.load 1 false (.t 3)),
  .op (some 5) (.binS .neq (.t 4) (.v (.lit (.string ⟨#[]⟩)))),
  .op (some 6) (.mv (.t 5)),
  .grp 6 true [((some 7), (.faddr 0 (.t 1))), ((some 8), (.load 1 false (.t 7))), ((some 9), (.call (.v (.lit (.func (.func 71) #[] #[]))) [(.t 8), (.v (.lit (.int .i64 (160))))]))],
  .op (some 10) (.pick (.t 6) (.t 9) (.v (.lit (.bool false)))),
  .op (some 11) (.mv (.t 10)),
  .grp 11 true [((some 12), (.faddr 0 (.t 1))), ((some 13), (.load 1 false (.t 12))), ((some 14), (.call (.v (.lit (.func (.func 72) #[] #[]))) [(.t 13), (.v (.lit (.int .u8 (64))))])), ((some 15), (.un .not (.t 14)))],
  .op (some 16) (.pick (.t 11) (.t 15) (.v (.lit (.bool false)))),
  .op (some 17) (.mv (.t 16)),
  .grp 17 true [((some 18), (.faddr 1 (.t 1))), ((some 19), (.load 1 false (.t 18))), ((some 20), (.call (.v (.lit (.func (.func 71) #[] #[]))) [(.t 19), (.v (.lit (.int .i64 (250))))]))],
  .op (some 21) (.pick (.t 17) (.t 20) (.v (.lit (.bool false)))),
  .op (some 2) (.mv (.t 21))])
 .ret))
def rs50 : List RR := [.tmp 2]
def cut50 : Nat → Nat := fun id => 0
theorem k50 : (Try.f50.body.bind fun c => comp Try.prog Try.f50.ntmps cut50 c) = some r50 := by kernel_rfl
theorem by50 {W0 : World} {σ : List Blk} {args : List AV} {K : Cont} (hn : args.length ≤ 22) (h : rW Try.prog W0 σ.length r50 (initFr args) σ (finP W0 rs50 σ.length K)) : ACall Try.prog W0 50 args σ K :=
  ACall.introR mixed Try.func50 (by kernel_rfl) k50 (by kernel_rfl) hn h
def r51 : RC := (.seq (.reg [.op (some 2) (.mv (.v (.lit (.bool false))))])
 (.seq (.reg [.op (some 3) (.mv (.t 0)),
  .op (some 4) (.lenS (.t 3)),
  .op (some 5) (.binI .geq (.t 4) (.v (.lit (.int .i64 (1))))),
  .op (some 6) (.mv (.t 5)),
  .grp 6 true [((some 7), (.mv (.t 0))), ((some 8), (.lenS (.t 7))), ((some 9), (.binI .leq (.t 8) (.v (.lit (.int .i64 (160))))))],
  .op (some 10) (.pick (.t 6) (.t 9) (.v (.lit (.bool false)))),
  .op (some 11) (.mv (.t 10)),
  .grp 11 true [((some 12), (.mv (.t 0))), ((some 13), (.call (.v (.lit (.func (.func 52) #[] #[]))) [(.t 12)]))],
  .op (some 14) (.pick (.t 11) (.t 13) (.v (.lit (.bool false)))),
  .op (some 15) (.mv (.t 14)),
  .grp 15 true [((some 16), (.mv (.t 0))), ((some 17), (.call (.v (.lit (.func (.func 73) #[] #[]))) [(.t 16), (.v (.lit (.string ⟨#[64]⟩)))])), ((some 18), (.un .not (.t 17)))],
  .op (some 19) (.pick (.t 15) (.t 18) (.v (.lit (.bool false)))),
  .op (some 2) (.mv (.t 19))])
 .ret))
def rs51 : List RR := [.tmp 2]
def cut51 : Nat → Nat := fun id => 0
theorem k51 : (Try.f51.body.bind fun c => comp Try.prog Try.f51.ntmps cut51 c) = some r51 := by kernel_rfl
theorem by51 {W0 : World} {σ : List Blk} {args : List AV} {K : Cont} (hn : args.length ≤ 20) (h : rW Try.prog W0 σ.length r51 (initFr args) σ (finP W0 rs51 σ.length K)) : ACall Try.prog W0 51 args σ K :=
  ACall.introR mixed Try.func51 (by kernel_rfl) k51 (by kernel_rfl) hn h
def r52 : RC := (.seq (.reg [.op (some 2) (.mv (.v (.lit (.bool false))))])
 (.seq (.seq (.reg [.op (some 4) (.mv (.t 0)),
  .op (some 5) (.lenS (.t 4)),
  .op (some 6) (.mv (.v (.lit (.int .i64 (0)))))])
 (.block 0 (.loop (.seq (.reg [.op (some 7) (.binI .lss (.t 6) (.t 5))])
 (.seq (.cond (.t 7)
 .skip
 (.exit 0))
 (.seq (.block 1 (.seq (.reg [.op (some 8) (.mv (.t 6)),
  .op (some 3) (.mv (.t 8))])
 (.seq (.reg [.op (some 9) (.mv (.t 0)),
  .op (some 10) (.mv (.t 3)),
  .op (some 11) (.idxS (.t 9) (.t 10)),
  .op (some 12) (.binI .lss (.t 11) (.v (.lit (.int .u8 (32))))),
  .op (some 13) (.mv (.t 12)),
  .grp 13 false [((some 14), (.mv (.t 0))), ((some 15), (.mv (.t 3))), ((some 16), (.idxS (.t 14) (.t 15))), ((some 17), (.binI .gtr (.t 16) (.v (.lit (.int .u8 (126))))))],
  .op (some 18) (.pick (.t 13) (.v (.lit (.bool true))) (.t 17)),
  .op (some 19) (.mv (.t 18)),
  .grp 19 false [((some 20), (.mv (.t 0))), ((some 21), (.mv (.t 3))), ((some 22), (.idxS (.t 20) (.t 21))), ((some 23), (.binI .eql (.t 22) (.v (.lit (.int .u8 (35))))))],
  .op (some 24) (.pick (.t 19) (.v (.lit (.bool true))) (.t 23))])
 (.cond (.t 24)
 (.seq (.reg [.op (some 2) (.mv (.v (.lit (.bool false))))])
 .ret)
 .skip))))
 (.reg [.op (some 25) (.binI .add (.t 6) (.v (.lit (.int .i64 (1))))),
  .op (some 6) (.mv (.t 25))])))))))
 (.seq (.reg [.op (some 2) (.mv (.v (.lit (.bool true))))])
 .ret)))
def rs52 : List RR := [.tmp 2]
def cut52 : Nat → Nat := fun id => 0
theorem k52 : (Try.f52.body.bind fun c => comp Try.prog Try.f52.ntmps cut52 c) = some r52 := by kernel_rfl
theorem by52 {W0 : World} {σ : List Blk} {args : List AV} {K : Cont} (hn : args.length ≤ 26) (h : rW Try.prog W0 σ.length r52 (initFr args) σ (finP W0 rs52 σ.length K)) : ACall Try.prog W0 52 args σ K :=
  ACall.introR mixed Try.func52 (by kernel_rfl) k52 (by kernel_rfl) hn h
def r53 : RC := (.seq (.reg [.op (some 4) (.mv (.v (.lit (.int .i64 (0)))))])
 (.seq (.reg [.op (some 5) (.mv (.t 1)),
  .op (some 6) (.mv (.t 0)),
  .op (some 7) (.lenL (.t 6)),
  .op (some 8) (.binI .sub (.t 5) (.t 7)),
  .op (some 1) (.mv (.t 8))])
 (.seq (.seq (.reg [.op (some 9) (.mv (.t 1)),
  .op (some 10) (.binI .lss (.t 9) (.v (.lit (.int .i64 (0)))))])
 (.cond (.t 10)
 (.seq (.reg [.op (some 4) (.mv (.v (.lit (.int .i64 (-1)))))])
 .ret)
 .skip))
 (.seq (.reg [.op (some 11) (.mv (.t 1)),
  .op (some 4) (.mv (.t 11))])
 .ret))))
def rs53 : List RR := [.tmp 4]
def cut53 : Nat → Nat := fun id => 0
theorem k53 : (Try.f53.body.bind fun c => comp Try.prog Try.f53.ntmps cut53 c) = some r53 := by kernel_rfl
theorem by53 {W0 : World} {σ : List Blk} {args : List AV} {K : Cont} (hn : args.length ≤ 12) (h : rW Try.prog W0 σ.length r53 (initFr args) σ (finP W0 rs53 σ.length K)) : ACall Try.prog W0 53 args σ K :=
  ACall.introR mixed Try.func53 (by kernel_rfl) k53 (by kernel_rfl) hn h
def r54 : RC := (.seq (.reg [.op (some 4) (.mv (.v (.lit (.int .i64 (0)))))])
 (.seq (.reg [.op (some 5) (.mv (.t 1)),
  .op (some 6) (.mv (.t 0)),
  .op (some 7) (.lenL (.t 6)),
  .op (some 8) (.binI .sub (.t 5) (.t 7)),
  .op (some 1) (.mv (.t 8))])
 (.seq (.seq (.reg [.op (some 9) (.mv (.t 1)),
  .op (some 10) (.binI .lss (.t 9) (.v (.lit (.int .i64 (0)))))])
 (.cond (.t 10)
 (.seq (.reg [.op (some 4) (.mv (.v (.lit (.int .i64 (-1)))))])
 .ret)
 .skip))
 (.seq (.reg [.op (some 11) (.mv (.t 1)),
  .op (some 4) (.mv (.t 11))])
 .ret))))
def rs54 : List RR := [.tmp 4]
def cut54 : Nat → Nat := fun id => 0
theorem k54 : (Try.f54.body.bind fun c => comp Try.prog Try.f54.ntmps cut54 c) = some r54 := by kernel_rfl
theorem by54 {W0 : World} {σ : List Blk} {args : List AV} {K : Cont} (hn : args.length ≤ 12) (h : rW Try.prog W0 σ.length r54 (initFr args) σ (finP W0 rs54 σ.length K)) : ACall Try.prog W0 54 args σ K :=
  ACall.introR mixed Try.func54 (by kernel_rfl) k54 (by kernel_rfl) hn h
def r55 : RC := (.seq (.reg [.op (some 1) (.box 63 (.t 0)),
  .op (some 2) (.mv (.v (.lit (.bool false))))])
 (.seq (.seq (.reg [.op (some 5) (.faddr 0 (.t 1)),
  .op (some 6) (.load 6 true (.t 5)),
  .op (some 7) (.call (.v (.lit (.func (.func 42) #[] #[]))) [(.t 6)]),
  .op (some 8) (.un .not (.t 7)),
  .op (some 9) (.mv (.t 8)),
  .grp 9 false [((some 10), (.faddr 6 (.t 1))), ((some 11), (.load 1 false (.t 10))), ((some 12), (.lenL (.t 11))), ((some 13), (.binI .gtr (.t 12) (.v (.lit (.int .i64 (4))))))],
  .op (some 14) (.pick (.t 9) (.v (.lit (.bool true))) (.t 13)),
  .op (some 15) (.mv (.t 14)),
  .grp 15 false [((some 16), (.faddr 7 (.t 1))), ((some 17), (.load 1 false (.t 16))), ((some 18), (.lenL (.t 17))), ((some 19), (.binI .gtr (.t 18) (.v (.lit (.int .i64 (40))))))],
  .op (some 20) (.pick (.t 15) (.v (.lit (.bool true))) (.t 19))])
 (.cond (.t 20)
 (.seq (.reg [.op (some 2) (.mv (.v (.lit (.bool false))))])
 .ret)
 .skip))
 (.seq (.seq (.reg [.op (some 3) (.mv (.v (.lit (.int .i64 (0)))))])
 (.block 0 (.loop (.seq (.seq (.reg [.op (some 21) (.mv (.t 3)),
  .op (some 22) (.faddr 6 (.t 1)),
  .op (some 23) (.load 1 false (.t 22)),
  .op (some 24) (.lenL (.t 23)),
  .op (some 25) (.binI .lss (.t 21) (.t 24))])
 (.cond (.t 25)
 .skip
 (.exit 0)))
 (.seq (.block 1 (.seq (.reg [.op (some 28) (.faddr 6 (.t 1)),
  .op (some 29) (.load 1 false (.t 28)),
  .op (some 30) (.mv (.t 3)),
  .op (some 31) (.iaddrS 6 (.t 29) (.t 30)),
  .op (some 32) (.load 6 true (.t 31)),
  .op (some 33) (.call (.v (.lit (.func (.func 42) #[] #[]))) [(.t 32)]),
  .op (some 34) (.un .not (.t 33))])
 (.cond (.t 34)
 (.seq (.reg [.op (some 2) (.mv (.v (.lit (.bool false))))])
 .ret)
 .skip)))
 (.reg [.op (some 26) (.mv (.t 3)),
  .op (some 27) (.binI .add (.t 26) (.v (.lit (.int .i64 (1))))),
  .op (some 3) (.mv (.t 27))]))))))
 (.seq (.seq (.reg [.op (some 4) (.mv (.v (.lit (.int .i64 (0)))))])
 (.block 2 (.loop (.seq (.seq (.reg [.op (some 35) (.mv (.t 4)),
  .op (some 36) (.faddr 7 (.t 1)),
  .op (some 37) (.load 1 false (.t 36)),
  .op (some 38) (.lenL (.t 37)),
  .op (some 39) (.binI .lss (.t 35) (.t 38))])
 (.cond (.t 39)
 .skip
 (.exit 2)))
 (.seq (.block 3 (.seq (.draw [((some 42), (.faddr 7 (.t 1))), ((some 43), (.load 1 false (.t 42))), ((some 44), (.mv (.t 4))), ((some 45), (.iaddrS 4 (.t 43) (.t 44))), ((some 46), (.load 4 true (.t 45))), ((some 47), (.faddr 6 (.t 1))), ((some 48), (.load 1 false (.t 47))), ((some 49), (.lenL (.t 48))), ((some 50), (.call (.v (.lit (.func (.func 74) #[] #[]))) [(.t 46), (.t 49)])), ((some 51), (.un .not (.t 50)))] [])
 (.cond (.t 51)
 (.seq (.reg [.op (some 2) (.mv (.v (.lit (.bool false))))])
 .ret)
 .skip)))
 (.reg [.op (some 40) (.mv (.t 4)),
  .op (some 41) (.binI .add (.t 40) (.v (.lit (.int .i64 (1))))),
  .op (some 4) (.mv (.t 41))]))))))
 (.seq (.reg [.op (some 2) (.mv (.v (.lit (.bool true))))])
 .ret)))))
def rs55 : List RR := [.tmp 2]
def cut55 : Nat → Nat := fun id => if id = 11 then 21 else 0
theorem k55 : (Try.f55.body.bind fun c => comp Try.prog Try.f55.ntmps cut55 c) = some r55 := by kernel_rfl
theorem by55 {W0 : World} {σ : List Blk} {args : List AV} {K : Cont} (hn : args.length ≤ 52) (h : rW Try.prog W0 σ.length r55 (initFr args) σ (finP W0 rs55 σ.length K)) : ACall Try.prog W0 55 args σ K :=
  ACall.introR mixed Try.func55 (by kernel_rfl) k55 (by kernel_rfl) hn h
def r56 : RC := (.seq (.reg [.op (some 2) (.mv (.v (.lit (.slice none 0 0))))])
 (.seq (.reg [.op (some 5) (.mv (.t 0)),
  .op (some 6) (.lenL (.t 5)),
  .op (some 7) (.mkslice 28 6 48 (List.replicate 6 (.lit (.int .i64 (0)))) (.t 6) (.t 6)),
  .op (some 3) (.mv (.t 7))])
 (.seq (.seq (.reg [.op (some 4) (.mv (.v (.lit (.int .i64 (0)))))])
 (.block 0 (.loop (.seq (.seq (.reg [.op (some 8) (.mv (.t 4)),
  .op (some 9) (.mv (.t 0)),
  .op (some 10) (.lenL (.t 9)),
  .op (some 11) (.binI .lss (.t 8) (.t 10))])
 (.cond (.t 11)
 .skip
 (.exit 0)))
 (.seq (.block 1 (.reg [.op (some 14) (.mv (.t 3)),
  .op (some 15) (.mv (.t 4)),
  .op (some 16) (.mv (.t 0)),
  .op (some 17) (.mv (.t 4)),
  .op (some 18) (.iaddrS 6 (.t 16) (.t 17)),
  .op (some 19) (.load 6 true (.t 18)),
  .op (some 20) (.call (.v (.lit (.func (.func 14) #[] #[]))) [(.t 19)]),
  .op (some 21) (.iaddrS 6 (.t 14) (.t 15)),
  .op none (.store 6 (.t 21) (.t 20))]))
 (.reg [.op (some 12) (.mv (.t 4)),
  .op (some 13) (.binI .add (.t 12) (.v (.lit (.int .i64 (1))))),
  .op (some 4) (.mv (.t 13))]))))))
 (.seq (.reg [.op (some 22) (.mv (.t 3)),
  .op (some 2) (.mv (.t 22))])
 .ret))))
def rs56 : List RR := [.tmp 2]
def cut56 : Nat → Nat := fun id => 0
theorem k56 : (Try.f56.body.bind fun c => comp Try.prog Try.f56.ntmps cut56 c) = some r56 := by kernel_rfl
theorem by56 {W0 : World} {σ : List Blk} {args : List AV} {K : Cont} (hn : args.length ≤ 23) (h : rW Try.prog W0 σ.length r56 (initFr args) σ (finP W0 rs56 σ.length K)) : ACall Try.prog W0 56 args σ K :=
  ACall.introR mixed Try.func56 (by kernel_rfl) k56 (by kernel_rfl) hn h
def r57 : RC := (.seq (.reg [.op (some 2) (.mv (.v (.lit (.slice none 0 0))))])
 (.seq (.reg [.op (some 5) (.mv (.t 0)),
  .op (some 6) (.lenL (.t 5)),
  .op (some 7) (.mkslice 125 4 32 (List.replicate 4 (.lit (.int .i64 (0)))) (.t 6) (.t 6)),
  .op (some 3) (.mv (.t 7))])
 (.seq (.seq (.reg [.op (some 4) (.mv (.v (.lit (.int .i64 (0)))))])
 (.block 0 (.loop (.seq (.seq (.reg [.op (some 8) (.mv (.t 4)),
  .op (some 9) (.mv (.t 0)),
  .op (some 10) (.lenL (.t 9)),
  .op (some 11) (.binI .lss (.t 8) (.t 10))])
 (.cond (.t 11)
 .skip
 (.exit 0)))
 (.seq (.block 1 (.reg [.op (some 14) (.mv (.t 3)),
  .op (some 15) (.mv (.t 4)),
  .op (some 16) (.mv (.t 0)),
  .op (some 17) (.mv (.t 4)),
  .op (some 18) (.iaddrS 4 (.t 16) (.t 17)),
  .op (some 19) (.load 4 true (.t 18)),
  .op (some 20) (.call (.v (.lit (.func (.func 75) #[] #[]))) [(.t 19)]),
  .op (some 21) (.iaddrS 4 (.t 14) (.t 15)),
  .op none (.store 4 (.t 21) (.t 20))]))
 (.reg [.op (some 12) (.mv (.t 4)),
  .op (some 13) (.binI .add (.t 12) (.v (.lit (.int .i64 (1))))),
  .op (some 4) (.mv (.t 13))]))))))
 (.seq (.reg [.op (some 22) (.mv (.t 3)),
  .op (some 2) (.mv (.t 22))])
 .ret))))
def rs57 : List RR := [.tmp 2]
def cut57 : Nat → Nat := fun id => 0
theorem k57 : (Try.f57.body.bind fun c => comp Try.prog Try.f57.ntmps cut57 c) = some r57 := by kernel_rfl
theorem by57 {W0 : World} {σ : List Blk} {args : List AV} {K : Cont} (hn : args.length ≤ 23) (h : rW Try.prog W0 σ.length r57 (initFr args) σ (finP W0 rs57 σ.length K)) : ACall Try.prog W0 57 args σ K :=
  ACall.introR mixed Try.func57 (by kernel_rfl) k57 (by kernel_rfl) hn h
def r58 : RC := (.seq (.reg [.op (some 1) (.box 63 (.t 0)),
  .op (some 2) (.mv (.v (.lit (.pointer none)))),
  .op (some 3) (.mv (.v (.lit (.bool false))))])
 (.seq (.reg [.op (some 17) (.faddr 0 (.t 1)),
  .op (some 18) (.load 6 true (.t 17)),
  .op (some 19) (.call (.v (.lit (.func (.func 68) #[] #[]))) [(.t 18)]),
  .op (some 16) (.mv (.t 19)),
  .op (some 20) (.ext (.t 16) 0),
  .op (some 21) (.ext (.t 16) 1),
  .op (some 4) (.mv (.t 20)),
  .op (some 5) (.mv (.t 21))])
 (.seq (.seq (.reg [.op (some 22) (.mv (.t 5)),
  .op (some 23) (.un .not (.t 22)),
  .op (some 24) (.mv (.t 23)),
  .grp 24 false [((some 25), (.faddr 6 (.t 1))), ((some 26), (.load 1 false (.t 25))), ((some 27), (.lenL (.t 26))), ((some 28), (.binI .gtr (.t 27) (.v (.lit (.int .i64 (4))))))],
  .op (some 29) (.pick (.t 24) (.v (.lit (.bool true))) (.t 28)),
  .op (some 30) (.mv (.t 29)),
  .grp 30 false [((some 31), (.faddr 7 (.t 1))), ((some 32), (.load 1 false (.t 31))), ((some 33), (.lenL (.t 32))), ((some 34), (.binI .gtr (.t 33) (.v (.lit (.int .i64 (40))))))],
  .op (some 35) (.pick (.t 30) (.v (.lit (.bool true))) (.t 34))])
 (.cond (.t 35)
 (.seq (.reg [.op (some 2) (.mv (.v (.lit (.pointer none)))),
  .op (some 3) (.mv (.v (.lit (.bool false))))])
 .ret)
 .skip))
 (.seq (.reg [.op (some 36) (.bslice 86 1 0 [(.lit (.int .u64 (0)))] []),
  .op (some 6) (.mv (.t 36))])
 (.seq (.seq (.reg [.op (some 37) (.faddr 6 (.t 1)),
  .op (some 38) (.load 1 false (.t 37)),
  .op (some 39) (.lenL (.t 38)),
  .op (some 40) (.mv (.v (.lit (.int .i64 (0)))))])
 (.block 0 (.loop (.seq (.reg [.op (some 41) (.binI .lss (.t 40) (.t 39))])
 (.seq (.cond (.t 41)
 .skip
 (.exit 0))
 (.seq (.block 1 (.seq (.reg [.op (some 42) (.iaddrS 6 (.t 38) (.t 40)),
  .op (some 43) (.load 6 true (.t 42)),
  .op (some 8) (.alloc 28 (List.replicate 6 (.lit (.int .i64 (0))))),
  .op none (.store 6 (.t 8) (.t 43))])
 (.seq (.reg [.op (some 45) (.load 6 true (.t 8)),
  .op (some 46) (.call (.v (.lit (.func (.func 68) #[] #[]))) [(.t 45)]),
  .op (some 44) (.mv (.t 46)),
  .op (some 47) (.ext (.t 44) 0),
  .op (some 48) (.ext (.t 44) 1),
  .op (some 9) (.mv (.t 47)),
  .op (some 10) (.mv (.t 48))])
 (.seq (.seq (.reg [.op (some 49) (.mv (.t 10)),
  .op (some 50) (.un .not (.t 49))])
 (.cond (.t 50)
 (.seq (.reg [.op (some 2) (.mv (.v (.lit (.pointer none)))),
  .op (some 3) (.mv (.v (.lit (.bool false))))])
 .ret)
 .skip))
 (.reg [.op (some 51) (.mv (.t 6)),
  .op (some 52) (.mv (.t 9)),
  .app (some 54) 53 86 1 8 (.t 51) 1 [(.lit (.int .u64 (0)))] [(0, (.t 52))],
  .op (some 6) (.mv (.t 54))])))))
 (.reg [.op (some 55) (.binI .add (.t 40) (.v (.lit (.int .i64 (1))))),
  .op (some 40) (.mv (.t 55))])))))))
 (.seq (.reg [.op (some 56) (.mv (.t 4)),
  .op (some 57) (.build [(.lit (.int .u64 (0))), (.lit (.slice none 0 0))] [((0, 1), (.t 56))]),
  .op (some 58) (.box 131 (.t 57)),
  .op (some 11) (.mv (.t 58))])
 (.seq (.seq (.reg [.op (some 59) (.faddr 7 (.t 1)),
  .op (some 60) (.load 1 false (.t 59)),
  .op (some 61) (.lenL (.t 60)),
  .op (some 62) (.mv (.v (.lit (.int .i64 (0)))))])
 (.block 2 (.loop (.seq (.reg [.op (some 63) (.binI .lss (.t 62) (.t 61))])
 (.seq (.cond (.t 63)
 .skip
 (.exit 2))
 (.seq (.block 3 (.seq (.reg [.op (some 64) (.iaddrS 4 (.t 60) (.t 62)),
  .op (some 65) (.load 4 true (.t 64)),
  .op (some 13) (.alloc 125 (List.replicate 4 (.lit (.int .i64 (0))))),
  .op none (.store 4 (.t 13) (.t 65))])
 (.seq (.seq (.reg [.op (some 66) (.load 4 true (.t 13)),
  .op (some 67) (.mv (.t 6)),
  .op (some 68) (.lenL (.t 67)),
  .op (some 69) (.call (.v (.lit (.func (.func 76) #[] #[]))) [(.t 66), (.t 68)]),
  .op (some 70) (.un .not (.t 69))])
 (.cond (.t 70)
 (.seq (.reg [.op (some 2) (.mv (.v (.lit (.pointer none)))),
  .op (some 3) (.mv (.v (.lit (.bool false))))])
 .ret)
 .skip))
 (.seq (.draw [((some 71), (.mv (.t 6))), ((some 72), (.faddr 1 (.t 13))), ((some 73), (.load 1 false (.t 72))), ((some 74), (.iaddrS 1 (.t 71) (.t 73))), ((some 75), (.load 1 false (.t 74))), ((some 76), (.faddr 2 (.t 13))), ((some 77), (.load 2 true (.t 76))), ((some 78), (.call (.v (.lit (.func (.func 78) #[] #[]))) [(.t 77)])), ((some 79), (.call (.v (.lit (.func (.func 77) #[] #[]))) [(.t 75), (.t 78)]))] [((some 14), (.alloc 86 [(.lit (.int .u64 (0)))])), (none, (.store 1 (.t 14) (.t 79)))])
 (.seq (.reg [.op (some 80) (.build (List.replicate 4 (.lit .nilFunc)) [((0, 1), (.v (.lit .nilFunc))), ((1, 1), (.v (.lit (.func (.func 79) #[] #[])))), ((2, 1), (.v (.lit (.func (.func 80) #[] #[])))), ((3, 1), (.v (.lit (.func (.func 81) #[] #[]))))]),
  .op (some 81) (.faddr 0 (.t 13)),
  .op (some 82) (.load 1 false (.t 81)),
  .op (some 83) (.idxA 4 1 false (.t 80) (.t 82)),
  .op (some 15) (.alloc 134 [(.lit .nilFunc)]),
  .op none (.store 1 (.t 15) (.t 83))])
 (.reg [.op (some 84) (.mv (.t 11)),
  .op (some 85) (.mv (.t 11)),
  .op (some 86) (.nilck (.t 85)),
  .op (some 87) (.faddr 1 (.t 86)),
  .op (some 88) (.load 1 false (.t 87)),
  .op (some 89) (.mkfn (.func 82) [] [(.t 15), (.t 14)]),
  .app (some 91) 90 136 1 8 (.t 88) 1 [(.lit .nilFunc)] [(0, (.t 89))],
  .op (some 92) (.nilck (.t 84)),
  .op (some 93) (.faddr 1 (.t 92)),
  .op none (.store 1 (.t 93) (.t 91))]))))))
 (.reg [.op (some 94) (.binI .add (.t 62) (.v (.lit (.int .i64 (1))))),
  .op (some 62) (.mv (.t 94))])))))))
 (.seq (.reg [.op (some 95) (.mv (.t 11)),
  .op (some 2) (.mv (.t 95)),
  .op (some 3) (.mv (.v (.lit (.bool true))))])
 .ret))))))))
def rs58 : List RR := [.tmp 2, .tmp 3]
def cut58 : Nat → Nat := fun id => if id = 19 then 19 else 0
theorem k58 : (Try.f58.body.bind fun c => comp Try.prog Try.f58.ntmps cut58 c) = some r58 := by kernel_rfl
theorem by58 {W0 : World} {σ : List Blk} {args : List AV} {K : Cont} (hn : args.length ≤ 96) (h : rW Try.prog W0 σ.length r58 (initFr args) σ (finP W0 rs58 σ.length K)) : ACall Try.prog W0 58 args σ K :=
  ACall.introR mixed Try.func58 (by kernel_rfl) k58 (by kernel_rfl) hn h
def r59 : RC := (.seq (.reg [.op (some 4) (.mv (.v (.lit (.bool false))))])
 (.seq (.seq (.reg [.op (some 6) (.mv (.t 0)),
  .op (some 7) (.lenL (.t 6)),
  .op (some 8) (.mv (.t 1)),
  .op (some 9) (.lenL (.t 8)),
  .op (some 10) (.binI .neq (.t 7) (.t 9))])
 (.cond (.t 10)
 (.seq (.reg [.op (some 4) (.mv (.v (.lit (.bool false))))])
 .ret)
 .skip))
 (.seq (.seq (.reg [.op (some 5) (.mv (.v (.lit (.int .i64 (0)))))])
 (.block 0 (.loop (.seq (.seq (.reg [.op (some 11) (.mv (.t 5)),
  .op (some 12) (.mv (.t 0)),
  .op (some 13) (.lenL (.t 12)),
  .op (some 14) (.binI .lss (.t 11) (.t 13))])
 (.cond (.t 14)
 .skip
 (.exit 0)))
 (.seq (.block 1 (.seq (.draw [((some 17), (.mv (.t 0))), ((some 18), (.mv (.t 5))), ((some 19), (.iaddrS 6 (.t 17) (.t 18))), ((some 20), (.load 6 true (.t 19))), ((some 21), (.mv (.t 1))), ((some 22), (.mv (.t 5))), ((some 23), (.iaddrS 6 (.t 21) (.t 22))), ((some 24), (.load 6 true (.t 23))), ((some 25), (.call (.v (.lit (.func (.func 44) #[] #[]))) [(.t 20), (.t 24)])), ((some 26), (.un .not (.t 25)))] [])
 (.cond (.t 26)
 (.seq (.reg [.op (some 4) (.mv (.v (.lit (.bool false))))])
 .ret)
 .skip)))
 (.reg [.op (some 15) (.mv (.t 5)),
  .op (some 16) (.binI .add (.t 15) (.v (.lit (.int .i64 (1))))),
  .op (some 5) (.mv (.t 16))]))))))
 (.seq (.reg [.op (some 4) (.mv (.v (.lit (.bool true))))])
 .ret))))
def rs59 : List RR := [.tmp 4]
def cut59 : Nat → Nat := fun id => if id = 6 then 21 else 0
theorem k59 : (Try.f59.body.bind fun c => comp Try.prog Try.f59.ntmps cut59 c) = some r59 := by kernel_rfl
theorem by59 {W0 : World} {σ : List Blk} {args : List AV} {K : Cont} (hn : args.length ≤ 27) (h : rW Try.prog W0 σ.length r59 (initFr args) σ (finP W0 rs59 σ.length K)) : ACall Try.prog W0 59 args σ K :=
  ACall.introR mixed Try.func59 (by kernel_rfl) k59 (by kernel_rfl) hn h
def r60 : RC := (.seq (.reg [.op (some 4) (.mv (.v (.lit (.bool false))))])
 (.seq (.seq (.reg [.op (some 6) (.mv (.t 0)),
  .op (some 7) (.lenL (.t 6)),
  .op (some 8) (.mv (.t 1)),
  .op (some 9) (.lenL (.t 8)),
  .op (some 10) (.binI .neq (.t 7) (.t 9))])
 (.cond (.t 10)
 (.seq (.reg [.op (some 4) (.mv (.v (.lit (.bool false))))])
 .ret)
 .skip))
 (.seq (.seq (.reg [.op (some 5) (.mv (.v (.lit (.int .i64 (0)))))])
 (.block 0 (.loop (.seq (.seq (.reg [.op (some 11) (.mv (.t 5)),
  .op (some 12) (.mv (.t 0)),
  .op (some 13) (.lenL (.t 12)),
  .op (some 14) (.binI .lss (.t 11) (.t 13))])
 (.cond (.t 14)
 .skip
 (.exit 0)))
 (.seq (.block 1 (.seq (.draw [((some 17), (.mv (.t 0))), ((some 18), (.mv (.t 5))), ((some 19), (.iaddrS 4 (.t 17) (.t 18))), ((some 20), (.load 4 true (.t 19))), ((some 21), (.mv (.t 1))), ((some 22), (.mv (.t 5))), ((some 23), (.iaddrS 4 (.t 21) (.t 22))), ((some 24), (.load 4 true (.t 23))), ((some 25), (.call (.v (.lit (.func (.func 83) #[] #[]))) [(.t 20), (.t 24)])), ((some 26), (.un .not (.t 25)))] [])
 (.cond (.t 26)
 (.seq (.reg [.op (some 4) (.mv (.v (.lit (.bool false))))])
 .ret)
 .skip)))
 (.reg [.op (some 15) (.mv (.t 5)),
  .op (some 16) (.binI .add (.t 15) (.v (.lit (.int .i64 (1))))),
  .op (some 5) (.mv (.t 16))]))))))
 (.seq (.reg [.op (some 4) (.mv (.v (.lit (.bool true))))])
 .ret))))
def rs60 : List RR := [.tmp 4]
def cut60 : Nat → Nat := fun id => if id = 6 then 21 else 0
theorem k60 : (Try.f60.body.bind fun c => comp Try.prog Try.f60.ntmps cut60 c) = some r60 := by kernel_rfl
theorem by60 {W0 : World} {σ : List Blk} {args : List AV} {K : Cont} (hn : args.length ≤ 27) (h : rW Try.prog W0 σ.length r60 (initFr args) σ (finP W0 rs60 σ.length K)) : ACall Try.prog W0 60 args σ K :=
  ACall.introR mixed Try.func60 (by kernel_rfl) k60 (by kernel_rfl) hn h
def r61 : RC := (.seq (.reg [.op (some 2) (.mv (.v (.lit (.bool false))))])
 (.seq (.seq (.reg [.op (some 3) (.mv (.v (.lit (.int .i64 (0)))))])
 (.block 0 (.loop (.seq (.seq (.reg [.op (some 4) (.mv (.t 3)),
  .op (some 5) (.mv (.t 0)),
  .op (some 6) (.lenL (.t 5)),
  .op (some 7) (.binI .lss (.t 4) (.t 6)),
  .op (some 8) (.mv (.t 7)),
  .grp 8 true [((some 9), (.mv (.t 3))), ((some 10), (.binI .leq (.t 9) (.v (.lit (.int .i64 (6))))))],
  .op (some 11) (.pick (.t 8) (.t 10) (.v (.lit (.bool false))))])
 (.cond (.t 11)
 .skip
 (.exit 0)))
 (.seq (.block 1 (.seq (.reg [.op (some 14) (.mv (.t 0)),
  .op (some 15) (.mv (.t 3)),
  .op (some 16) (.iaddrS 9 (.t 14) (.t 15)),
  .op (some 17) (.load 9 true (.t 16)),
  .op (some 18) (.call (.v (.lit (.func (.func 84) #[] #[]))) [(.t 17)]),
  .op (some 19) (.un .not (.t 18))])
 (.cond (.t 19)
 (.seq (.reg [.op (some 2) (.mv (.v (.lit (.bool false))))])
 .ret)
 .skip)))
 (.reg [.op (some 12) (.mv (.t 3)),
  .op (some 13) (.binI .add (.t 12) (.v (.lit (.int .i64 (1))))),
  .op (some 3) (.mv (.t 13))]))))))
 (.seq (.reg [.op (some 20) (.mv (.t 0)),
  .op (some 21) (.lenL (.t 20)),
  .op (some 22) (.binI .leq (.t 21) (.v (.lit (.int .i64 (6))))),
  .op (some 2) (.mv (.t 22))])
 .ret)))
def rs61 : List RR := [.tmp 2]
def cut61 : Nat → Nat := fun id => 0
theorem k61 : (Try.f61.body.bind fun c => comp Try.prog Try.f61.ntmps cut61 c) = some r61 := by kernel_rfl
theorem by61 {W0 : World} {σ : List Blk} {args : List AV} {K : Cont} (hn : args.length ≤ 23) (h : rW Try.prog W0 σ.length r61 (initFr args) σ (finP W0 rs61 σ.length K)) : ACall Try.prog W0 61 args σ K :=
  ACall.introR mixed Try.func61 (by kernel_rfl) k61 (by kernel_rfl) hn h
def r62 : RC := (.seq (.reg [.op (some 1) (.box 104 (.t 0)),
  .op (some 2) (.alloc 28 (List.replicate 6 (.lit (.int .i64 (0)))))])
 (.seq (.reg [.op (some 3) (.faddr 1 (.t 1)),
  .op (some 4) (.load 6 true (.t 3)),
  .op (some 5) (.faddr 7 (.t 1)),
  .op (some 6) (.load 2 true (.t 5)),
  .op (some 7) (.call (.v (.lit (.func (.func 85) #[] #[]))) [(.t 4), (.t 6)]),
  .op none (.store 6 (.t 2) (.t 7))])
 .ret))
def rs62 : List RR := [.cell 2 6 true]
def cut62 : Nat → Nat := fun id => 0
theorem k62 : (Try.f62.body.bind fun c => comp Try.prog Try.f62.ntmps cut62 c) = some r62 := by kernel_rfl
theorem by62 {W0 : World} {σ : List Blk} {args : List AV} {K : Cont} (hn : args.length ≤ 8) (h : rW Try.prog W0 σ.length r62 (initFr args) σ (finP W0 rs62 σ.length K)) : ACall Try.prog W0 62 args σ K :=
  ACall.introR mixed Try.func62 (by kernel_rfl) k62 (by kernel_rfl) hn h
def r63 : RC := (.seq (.reg [.op (some 1) (.box 107 (.t 0)),
  .op (some 2) (.alloc 104 (List.replicate 9 (.lit (.int .i64 (0)))))])
 (.seq (.reg [.op (some 3) (.alloc 104 (List.replicate 9 (.lit (.int .i64 (0)))))])
 (.seq (.reg [.op (some 4) (.faddr 0 (.t 1)),
  .op (some 5) (.load 1 false (.t 4)),
  .op (some 6) (.faddr 0 (.t 3)),
  .op none (.store 1 (.t 6) (.t 5))])
 (.seq (.reg [.op (some 7) (.faddr 1 (.t 1)),
  .op (some 8) (.load 6 true (.t 7)),
  .op (some 9) (.call (.v (.lit (.func (.func 14) #[] #[]))) [(.t 8)]),
  .op (some 10) (.faddr 1 (.t 3)),
  .op none (.store 6 (.t 10) (.t 9))])
 (.seq (.reg [.op (some 11) (.faddr 7 (.t 1)),
  .op (some 12) (.load 2 true (.t 11)),
  .op (some 13) (.call (.v (.lit (.func (.func 86) #[] #[]))) [(.t 12)]),
  .op (some 14) (.faddr 7 (.t 3)),
  .op none (.store 2 (.t 14) (.t 13))])
 (.seq (.reg [.op (some 15) (.load 9 true (.t 3)),
  .op none (.store 9 (.t 2) (.t 15))])
 .ret))))))
def rs63 : List RR := [.cell 2 9 true]
def cut63 : Nat → Nat := fun id => 0
theorem k63 : (Try.f63.body.bind fun c => comp Try.prog Try.f63.ntmps cut63 c) = some r63 := by kernel_rfl
theorem by63 {W0 : World} {σ : List Blk} {args : List AV} {K : Cont} (hn : args.length ≤ 16) (h : rW Try.prog W0 σ.length r63 (initFr args) σ (finP W0 rs63 σ.length K)) : ACall Try.prog W0 63 args σ K :=
  ACall.introR mixed Try.func63 (by kernel_rfl) k63 (by kernel_rfl) hn h
def r64 : RC := (.seq (.reg [.op (some 2) (.mv (.v (.lit (.slice none 0 0)))),
  .op (some 3) (.mv (.v (.lit (.bool false))))])
 (.seq (.reg [.op (some 9) (.bslice 112 2 0 [(.lit (.int .u64 (0))), (.lit (.int .i64 (0)))] []),
  .op (some 4) (.mv (.t 9))])
 (.seq (.seq (.reg [.op (some 10) (.mv (.t 0)),
  .op (some 11) (.lenL (.t 10)),
  .op (some 12) (.mv (.v (.lit (.int .i64 (0)))))])
 (.block 0 (.loop (.seq (.reg [.op (some 13) (.binI .lss (.t 12) (.t 11))])
 (.seq (.cond (.t 13)
 .skip
 (.exit 0))
 (.seq (.block 1 (.seq (.reg [.op (some 14) (.iaddrS 9 (.t 10) (.t 12)),
  .op (some 15) (.load 9 true (.t 14)),
  .op (some 6) (.alloc 104 (List.replicate 9 (.lit (.int .i64 (0))))),
  .op none (.store 9 (.t 6) (.t 15))])
 (.seq (.seq (.reg [.op (some 16) (.load 9 true (.t 6)),
  .op (some 17) (.call (.v (.lit (.func (.func 87) #[] #[]))) [(.t 16)]),
  .op (some 18) (.un .not (.t 17))])
 (.cond (.t 18)
 (.seq (.reg [.op (some 2) (.mv (.v (.lit (.slice none 0 0)))),
  .op (some 3) (.mv (.v (.lit (.bool false))))])
 .ret)
 .skip))
 (.seq (.reg [.op (some 20) (.faddr 1 (.t 6)),
  .op (some 21) (.load 6 true (.t 20)),
  .op (some 22) (.call (.v (.lit (.func (.func 68) #[] #[]))) [(.t 21)]),
  .op (some 19) (.mv (.t 22)),
  .op (some 23) (.ext (.t 19) 0),
  .op (some 24) (.ext (.t 19) 1),
  .op (some 7) (.mv (.t 23)),
  .op (some 8) (.mv (.t 24))])
 (.quiet [.op (some 25) (.mv (.t 4)),
  .op (some 26) (.mv (.t 7)),
  .op (some 27) (.faddr 7 (.t 6)),
  .op (some 28) (.load 2 true (.t 27)),
  .op (some 29) (.call (.v (.lit (.func (.func 78) #[] #[]))) [(.t 28)]),
  .op (some 30) (.call (.v (.lit (.func (.func 77) #[] #[]))) [(.t 26), (.t 29)]),
  .op (some 31) (.faddr 0 (.t 6)),
  .op (some 32) (.load 1 false (.t 31)),
  .op (some 33) (.build [(.lit (.int .u64 (0))), (.lit (.int .i64 (0)))] [((0, 1), (.t 30)), ((1, 1), (.t 32))]),
  .app (some 35) 34 112 2 16 (.t 25) 1 [(.lit (.int .u64 (0))), (.lit (.int .i64 (0)))] [(0, (.t 33))],
  .op (some 4) (.mv (.t 35))] [])))))
 (.reg [.op (some 36) (.binI .add (.t 12) (.v (.lit (.int .i64 (1))))),
  .op (some 12) (.mv (.t 36))])))))))
 (.seq (.reg [.op (some 37) (.mv (.t 4)),
  .op (some 38) (.mv (.t 0)),
  .op (some 39) (.lenL (.t 38)),
  .op (some 40) (.binI .leq (.t 39) (.v (.lit (.int .i64 (6))))),
  .op (some 2) (.mv (.t 37)),
  .op (some 3) (.mv (.t 40))])
 .ret))))
def rs64 : List RR := [.tmp 2, .tmp 3]
def cut64 : Nat → Nat := fun id => 0
theorem k64 : (Try.f64.body.bind fun c => comp Try.prog Try.f64.ntmps cut64 c) = some r64 := by kernel_rfl
theorem by64 {W0 : World} {σ : List Blk} {args : List AV} {K : Cont} (hn : args.length ≤ 41) (h : rW Try.prog W0 σ.length r64 (initFr args) σ (finP W0 rs64 σ.length K)) : ACall Try.prog W0 64 args σ K :=
  ACall.introR mixed Try.func64 (by kernel_rfl) k64 (by kernel_rfl) hn h
def r65 : RC := (.seq (.reg [.op (some 2) (.box 102 (.t 0)),
  .op (some 3) (.box 102 (.t 1)),
  .op (some 4) (.mv (.v (.lit (.bool false))))])
 (.seq (.seq (.reg [.op (some 5) (.mv (.v (.lit (.int .i64 (0)))))])
 (.block 0 (.loop (.seq (.seq (.reg [.op (some 6) (.mv (.t 5)),
  .op (some 7) (.binI .lss (.t 6) (.v (.lit (.int .i64 (2)))))])
 (.cond (.t 7)
 .skip
 (.exit 0)))
 (.seq (.block 1 (.seq (.draw [((some 10), (.mv (.t 5))), ((some 11), (.iaddrA 2 1 (.t 2) (.t 10))), ((some 12), (.load 1 false (.t 11))), ((some 13), (.mv (.t 5))), ((some 14), (.iaddrA 2 1 (.t 3) (.t 13))), ((some 15), (.load 1 false (.t 14))), ((some 16), (.binI .neq (.t 12) (.t 15)))] [])
 (.cond (.t 16)
 (.seq (.reg [.op (some 4) (.mv (.v (.lit (.bool false))))])
 .ret)
 .skip)))
 (.reg [.op (some 8) (.mv (.t 5)),
  .op (some 9) (.binI .add (.t 8) (.v (.lit (.int .i64 (1))))),
  .op (some 5) (.mv (.t 9))]))))))
 (.seq (.reg [.op (some 4) (.mv (.v (.lit (.bool true))))])
 .ret)))
def rs65 : List RR := [.tmp 4]
def cut65 : Nat → Nat := fun id => if id = 4 then 15 else 0
theorem k65 : (Try.f65.body.bind fun c => comp Try.prog Try.f65.ntmps cut65 c) = some r65 := by kernel_rfl
theorem by65 {W0 : World} {σ : List Blk} {args : List AV} {K : Cont} (hn : args.length ≤ 17) (h : rW Try.prog W0 σ.length r65 (initFr args) σ (finP W0 rs65 σ.length K)) : ACall Try.prog W0 65 args σ K :=
  ACall.introR mixed Try.func65 (by kernel_rfl) k65 (by kernel_rfl) hn h
def r66 : RC := (.seq (.reg [.op (some 2) (.box 104 (.t 0)),
  .op (some 3) (.box 104 (.t 1)),
  .op (some 4) (.mv (.v (.lit (.bool false))))])
 (.seq (.seq (.reg [.op (some 5) (.faddr 0 (.t 2)),
  .op (some 6) (.load 1 false (.t 5)),
  .op (some 7) (.faddr 0 (.t 3)),
  .op (some 8) (.load 1 false (.t 7)),
  .op (some 9) (.binI .neq (.t 6) (.t 8))])
 (.cond (.t 9)
 (.seq (.reg [.op (some 4) (.mv (.v (.lit (.bool false))))])
 .ret)
 .skip))
 (.seq (.seq (.reg [.op (some 10) (.faddr 1 (.t 2)),
  .op (some 11) (.load 6 true (.t 10)),
  .op (some 12) (.faddr 1 (.t 3)),
  .op (some 13) (.load 6 true (.t 12)),
  .op (some 14) (.call (.v (.lit (.func (.func 44) #[] #[]))) [(.t 11), (.t 13)]),
  .op (some 15) (.un .not (.t 14))])
 (.cond (.t 15)
 (.seq (.reg [.op (some 4) (.mv (.v (.lit (.bool false))))])
 .ret)
 .skip))
 (.seq (.seq (.reg [.op (some 16) (.faddr 7 (.t 2)),
  .op (some 17) (.load 2 true (.t 16)),
  .op (some 18) (.faddr 7 (.t 3)),
  .op (some 19) (.load 2 true (.t 18)),
  .op (some 20) (.call (.v (.lit (.func (.func 65) #[] #[]))) [(.t 17), (.t 19)]),
  .op (some 21) (.un .not (.t 20))])
 (.cond (.t 21)
 (.seq (.reg [.op (some 4) (.mv (.v (.lit (.bool false))))])
 .ret)
 .skip))
 (.seq (.reg [.op (some 4) (.mv (.v (.lit (.bool true))))])
 .ret)))))
def rs66 : List RR := [.tmp 4]
def cut66 : Nat → Nat := fun id => 0
theorem k66 : (Try.f66.body.bind fun c => comp Try.prog Try.f66.ntmps cut66 c) = some r66 := by kernel_rfl
theorem by66 {W0 : World} {σ : List Blk} {args : List AV} {K : Cont} (hn : args.length ≤ 22) (h : rW Try.prog W0 σ.length r66 (initFr args) σ (finP W0 rs66 σ.length K)) : ACall Try.prog W0 66 args σ K :=
  ACall.introR mixed Try.func66 (by kernel_rfl) k66 (by kernel_rfl) hn h
def r67 : RC := (.seq (.reg [.op (some 6) (.mv (.v (.lit (.bool false))))])
 (.seq (.reg [.op (some 7) (.mv (.t 0)),
  .op (some 8) (.mv (.t 1)),
  .op (some 9) (.binI .geq (.t 7) (.t 8)),
  .op (some 10) (.mv (.t 9)),
  .grp 10 true [((some 11), (.mv (.t 0))), ((some 12), (.mv (.t 2))), ((some 13), (.binI .leq (.t 11) (.t 12)))],
  .op (some 14) (.pick (.t 10) (.t 13) (.v (.lit (.bool false)))),
  .op (some 6) (.mv (.t 14))])
 .ret))
def rs67 : List RR := [.tmp 6]
def cut67 : Nat → Nat := fun id => 0
theorem k67 : (Try.f67.body.bind fun c => comp Try.prog Try.f67.ntmps cut67 c) = some r67 := by kernel_rfl
theorem by67 {W0 : World} {σ : List Blk} {args : List AV} {K : Cont} (hn : args.length ≤ 15) (h : rW Try.prog W0 σ.length r67 (initFr args) σ (finP W0 rs67 σ.length K)) : ACall Try.prog W0 67 args σ K :=
  ACall.introR mixed Try.func67 (by kernel_rfl) k67 (by kernel_rfl) hn h
def r68 : RC := (.seq (.reg [.op (some 1) (.box 28 (.t 0)),
  .op (some 2) (.mv (.v (.lit (.int .u64 (0))))),
  .op (some 3) (.mv (.v (.lit (.bool false))))])
 (.seq (.reg [.op (some 4) (.mv (.v (.lit (.int .u64 (0)))))])
 (.seq (.seq (.reg [.op (some 7) (.faddr 0 (.t 1)),
  .op (some 8) (.load 6 true (.t 7)),
  .op (some 9) (.mv (.v (.lit (.int .i64 (0)))))])
 (.block 0 (.loop (.seq (.reg [.op (some 10) (.binI .lss (.t 9) (.v (.lit (.int .i64 (6)))))])
 (.seq (.cond (.t 10)
 .skip
 (.exit 0))
 (.seq (.block 1 (.seq (.reg [.op (some 11) (.mv (.t 9)),
  .op (some 12) (.idxA 6 1 false (.t 8) (.t 9)),
  .op (some 5) (.mv (.t 11)),
  .op (some 6) (.mv (.t 12))])
 (.seq (.seq (.reg [.op (some 13) (.mv (.t 6)),
  .op (some 14) (.binI .lss (.t 13) (.v (.lit (.int .i64 (0))))),
  .op (some 15) (.mv (.t 14)),
  .grp 15 false [((some 16), (.mv (.t 6))), ((some 17), (.binI .gtr (.t 16) (.v (.lit (.int .i64 (63))))))],
  .op (some 18) (.pick (.t 15) (.v (.lit (.bool true))) (.t 17))])
 (.cond (.t 18)
 (.seq (.reg [.op (some 2) (.mv (.v (.lit (.int .u64 (0))))),
  .op (some 3) (.mv (.v (.lit (.bool false))))])
 .ret)
 .skip))
 (.reg [.op (some 19) (.mv (.t 4)),
  .op (some 20) (.mv (.t 6)),
  .op (some 21) (.conv .u64 (.t 20)),
  .op (some 22) (.mv (.t 5)),
  .op (some 23) (.binI .mul (.t 22) (.v (.lit (.int .i64 (6))))),
  .op (some 24) (.binI .shl (.t 21) (.t 23)),
  .op (some 25) (.binI .or (.t 19) (.t 24)),
  .op (some 4) (.mv (.t 25))]))))
 (.reg [.op (some 26) (.binI .add (.t 9) (.v (.lit (.int .i64 (1))))),
  .op (some 9) (.mv (.t 26))])))))))
 (.seq (.reg [.op (some 27) (.mv (.t 4)),
  .op (some 2) (.mv (.t 27)),
  .op (some 3) (.mv (.v (.lit (.bool true))))])
 .ret))))
def rs68 : List RR := [.tmp 2, .tmp 3]
def cut68 : Nat → Nat := fun id => 0
theorem k68 : (Try.f68.body.bind fun c => comp Try.prog Try.f68.ntmps cut68 c) = some r68 := by kernel_rfl
theorem by68 {W0 : World} {σ : List Blk} {args : List AV} {K : Cont} (hn : args.length ≤ 28) (h : rW Try.prog W0 σ.length r68 (initFr args) σ (finP W0 rs68 σ.length K)) : ACall Try.prog W0 68 args σ K :=
  ACall.introR mixed Try.func68 (by kernel_rfl) k68 (by kernel_rfl) hn h
def r69 : RC := (.seq (.reg [.op (some 2) (.box 22 (.t 0)),
  .op (some 3) (.box 22 (.t 1)),
  .op (some 4) (.mv (.v (.lit (.bool false))))])
 (.seq (.seq (.reg [.op (some 5) (.mv (.v (.lit (.int .i64 (0)))))])
 (.block 0 (.loop (.seq (.seq (.reg [.op (some 6) (.mv (.t 5)),
  .op (some 7) (.binI .lss (.t 6) (.v (.lit (.int .i64 (6)))))])
 (.cond (.t 7)
 .skip
 (.exit 0)))
 (.seq (.block 1 (.seq (.draw [((some 10), (.mv (.t 5))), ((some 11), (.iaddrA 6 1 (.t 2) (.t 10))), ((some 12), (.load 1 false (.t 11))), ((some 13), (.mv (.t 5))), ((some 14), (.iaddrA 6 1 (.t 3) (.t 13))), ((some 15), (.load 1 false (.t 14))), ((some 16), (.binI .neq (.t 12) (.t 15)))] [])
 (.cond (.t 16)
 (.seq (.reg [.op (some 4) (.mv (.v (.lit (.bool false))))])
 .ret)
 .skip)))
 (.reg [.op (some 8) (.mv (.t 5)),
  .op (some 9) (.binI .add (.t 8) (.v (.lit (.int .i64 (1))))),
  .op (some 5) (.mv (.t 9))]))))))
 (.seq (.reg [.op (some 4) (.mv (.v (.lit (.bool true))))])
 .ret)))
def rs69 : List RR := [.tmp 4]
def cut69 : Nat → Nat := fun id => if id = 4 then 15 else 0
theorem k69 : (Try.f69.body.bind fun c => comp Try.prog Try.f69.ntmps cut69 c) = some r69 := by kernel_rfl
theorem by69 {W0 : World} {σ : List Blk} {args : List AV} {K : Cont} (hn : args.length ≤ 17) (h : rW Try.prog W0 σ.length r69 (initFr args) σ (finP W0 rs69 σ.length K)) : ACall Try.prog W0 69 args σ K :=
  ACall.introR mixed Try.func69 (by kernel_rfl) k69 (by kernel_rfl) hn h
def r70 : RC := (.seq (.reg [.op (some 2) (.mv (.v (.lit (.int .i64 (0)))))])
 (.seq (.reg [.op (some 3) (.mv (.t 0)),
  .op (some 4) (.binI .shr (.t 3) (.v (.lit (.int .u64 (1))))),
  .op (some 5) (.binI .and (.t 4) (.v (.lit (.int .u64 (6148914691236517205))))),
  .op (some 6) (.mv (.t 0)),
  .op (some 7) (.binI .and (.t 6) (.v (.lit (.int .u64 (6148914691236517205))))),
  .op (some 8) (.binI .add (.t 5) (.t 7)),
  .op (some 0) (.mv (.t 8))])
 (.seq (.reg [.op (some 9) (.mv (.t 0)),
  .op (some 10) (.binI .shr (.t 9) (.v (.lit (.int .u64 (2))))),
  .op (some 11) (.binI .and (.t 10) (.v (.lit (.int .u64 (3689348814741910323))))),
  .op (some 12) (.mv (.t 0)),
  .op (some 13) (.binI .and (.t 12) (.v (.lit (.int .u64 (3689348814741910323))))),
  .op (some 14) (.binI .add (.t 11) (.t 13)),
  .op (some 0) (.mv (.t 14))])
 (.seq (.reg [.op (some 15) (.mv (.t 0)),
  .op (some 16) (.binI .shr (.t 15) (.v (.lit (.int .u64 (4))))),
  .op (some 17) (.mv (.t 0)),
  .op (some 18) (.binI .add (.t 16) (.t 17)),
  .op (some 19) (.binI .and (.t 18) (.v (.lit (.int .u64 (1085102592571150095))))),
  .op (some 0) (.mv (.t 19))])
 (.seq (.reg [.op (some 20) (.mv (.t 0)),
  .op (some 21) (.mv (.t 0)),
  .op (some 22) (.binI .shr (.t 21) (.v (.lit (.int .u64 (8))))),
  .op (some 23) (.binI .add (.t 20) (.t 22)),
  .op (some 0) (.mv (.t 23))])
 (.seq (.reg [.op (some 24) (.mv (.t 0)),
  .op (some 25) (.mv (.t 0)),
  .op (some 26) (.binI .shr (.t 25) (.v (.lit (.int .u64 (16))))),
  .op (some 27) (.binI .add (.t 24) (.t 26)),
  .op (some 0) (.mv (.t 27))])
 (.seq (.reg [.op (some 28) (.mv (.t 0)),
  .op (some 29) (.mv (.t 0)),
  .op (some 30) (.binI .shr (.t 29) (.v (.lit (.int .u64 (32))))),
  .op (some 31) (.binI .add (.t 28) (.t 30)),
  .op (some 0) (.mv (.t 31))])
 (.seq (.reg [.op (some 32) (.mv (.t 0)),
  .op (some 33) (.conv .i64 (.t 32)),
  .op (some 34) (.binI .and (.t 33) (.v (.lit (.int .i64 (127))))),
  .op (some 2) (.mv (.t 34))])
 .ret))))))))
def rs70 : List RR := [.tmp 2]
def cut70 : Nat → Nat := fun id => 0
theorem k70 : (Try.f70.body.bind fun c => comp Try.prog Try.f70.ntmps cut70 c) = some r70 := by kernel_rfl
theorem by70 {W0 : World} {σ : List Blk} {args : List AV} {K : Cont} (hn : args.length ≤ 35) (h : rW Try.prog W0 σ.length r70 (initFr args) σ (finP W0 rs70 σ.length K)) : ACall Try.prog W0 70 args σ K :=
  ACall.introR mixed Try.func70 (by kernel_rfl) k70 (by kernel_rfl) hn h
def r71 : RC := (.seq (.reg [.op (some 4) (.mv (.v (.lit (.bool false))))])
 (.seq (.seq (.reg [.op (some 5) (.mv (.v (.lit (.int .i64 (0)))))])
 (.block 0 (.loop (.seq (.seq (.reg [.op (some 6) (.mv (.t 5)),
  .op (some 7) (.mv (.t 0)),
  .op (some 8) (.lenS (.t 7)),
  .op (some 9) (.binI .lss (.t 6) (.t 8))])
 (.cond (.t 9)
 .skip
 (.exit 0)))
 (.seq (.block 1 (.seq (.reg [.op (some 12) (.mv (.t 0)),
  .op (some 13) (.mv (.t 5)),
  .op (some 14) (.idxS (.t 12) (.t 13)),
  .op (some 15) (.conv .i64 (.t 14)),
  .op (some 16) (.call (.v (.lit (.func (.func 67) #[] #[]))) [(.t 15), (.v (.lit (.int .i64 (32)))), (.v (.lit (.int .i64 (126))))]),
  .op (some 17) (.un .not (.t 16)),
  .op (some 18) (.mv (.t 17)),
  .grp 18 false [((some 19), (.mv (.t 0))), ((some 20), (.mv (.t 5))), ((some 21), (.idxS (.t 19) (.t 20))), ((some 22), (.binI .eql (.t 21) (.v (.lit (.int .u8 (35))))))],
  .op (some 23) (.pick (.t 18) (.v (.lit (.bool true))) (.t 22))])
 (.cond (.t 23)
 (.seq (.reg [.op (some 4) (.mv (.v (.lit (.bool false))))])
 .ret)
 .skip)))
 (.reg [.op (some 10) (.mv (.t 5)),
  .op (some 11) (.binI .add (.t 10) (.v (.lit (.int .i64 (1))))),
  .op (some 5) (.mv (.t 11))]))))))
 (.seq (.reg [.op (some 24) (.mv (.t 0)),
  .op (some 25) (.lenS (.t 24)),
  .op (some 26) (.mv (.t 1)),
  .op (some 27) (.binI .leq (.t 25) (.t 26)),
  .op (some 4) (.mv (.t 27))])
 .ret)))
def rs71 : List RR := [.tmp 4]
def cut71 : Nat → Nat := fun id => 0
theorem k71 : (Try.f71.body.bind fun c => comp Try.prog Try.f71.ntmps cut71 c) = some r71 := by kernel_rfl
theorem by71 {W0 : World} {σ : List Blk} {args : List AV} {K : Cont} (hn : args.length ≤ 28) (h : rW Try.prog W0 σ.length r71 (initFr args) σ (finP W0 rs71 σ.length K)) : ACall Try.prog W0 71 args σ K :=
  ACall.introR mixed Try.func71 (by kernel_rfl) k71 (by kernel_rfl) hn h
def r72 : RC := (.seq (.reg [.op (some 4) (.mv (.v (.lit (.bool false))))])
 (.seq (.seq (.reg [.op (some 5) (.mv (.v (.lit (.int .i64 (0)))))])
 (.block 0 (.loop (.seq (.seq (.reg [.op (some 6) (.mv (.t 5)),
  .op (some 7) (.mv (.t 0)),
  .op (some 8) (.lenS (.t 7)),
  .op (some 9) (.binI .lss (.t 6) (.t 8))])
 (.cond (.t 9)
 .skip
 (.exit 0)))
 (.seq (.block 1 (.seq (.reg [.op (some 12) (.mv (.t 0)),
  .op (some 13) (.mv (.t 5)),
  .op (some 14) (.idxS (.t 12) (.t 13)),
  .op (some 15) (.mv (.t 1)),
  .op (some 16) (.binI .eql (.t 14) (.t 15))])
 (.cond (.t 16)
 (.seq (.reg [.op (some 4) (.mv (.v (.lit (.bool true))))])
 .ret)
 .skip)))
 (.reg [.op (some 10) (.mv (.t 5)),
  .op (some 11) (.binI .add (.t 10) (.v (.lit (.int .i64 (1))))),
  .op (some 5) (.mv (.t 11))]))))))
 (.seq (.reg [.op (some 4) (.mv (.v (.lit (.bool false))))])
 .ret)))
def rs72 : List RR := [.tmp 4]
def cut72 : Nat → Nat := fun id => 0
theorem k72 : (Try.f72.body.bind fun c => comp Try.prog Try.f72.ntmps cut72 c) = some r72 := by kernel_rfl
theorem by72 {W0 : World} {σ : List Blk} {args : List AV} {K : Cont} (hn : args.length ≤ 17) (h : rW Try.prog W0 σ.length r72 (initFr args) σ (finP W0 rs72 σ.length K)) : ACall Try.prog W0 72 args σ K :=
  ACall.introR mixed Try.func72 (by kernel_rfl) k72 (by kernel_rfl) hn h
def r73 : RC := (.seq (.reg [.op (some 4) (.mv (.v (.lit (.bool false))))])
 (.seq (.reg [.op (some 5) (.mv (.t 0)),
  .op (some 6) (.mv (.t 1)),
  .op (some 7) (.call (.v (.lit (.func (.func 88) #[] #[]))) [(.t 5), (.t 6)]),
  .op (some 8) (.binI .geq (.t 7) (.v (.lit (.int .i64 (0))))),
  .op (some 4) (.mv (.t 8))])
 .ret))
def rs73 : List RR := [.tmp 4]
def cut73 : Nat → Nat := fun id => 0
theorem k73 : (Try.f73.body.bind fun c => comp Try.prog Try.f73.ntmps cut73 c) = some r73 := by kernel_rfl
theorem by73 {W0 : World} {σ : List Blk} {args : List AV} {K : Cont} (hn : args.length ≤ 9) (h : rW Try.prog W0 σ.length r73 (initFr args) σ (finP W0 rs73 σ.length K)) : ACall Try.prog W0 73 args σ K :=
  ACall.introR mixed Try.func73 (by kernel_rfl) k73 (by kernel_rfl) hn h
def r74 : RC := (.seq (.reg [.op (some 2) (.box 125 (.t 0)),
  .op (some 4) (.mv (.v (.lit (.bool false))))])
 (.seq (.reg [.op (some 5) (.faddr 0 (.t 2)),
  .op (some 6) (.load 1 false (.t 5)),
  .op (some 7) (.call (.v (.lit (.func (.func 67) #[] #[]))) [(.t 6), (.v (.lit (.int .i64 (1)))), (.v (.lit (.int .i64 (3))))]),
  .op (some 8) (.mv (.t 7)),
  .grp 8 true [((some 9), (.faddr 1 (.t 2))), ((some 10), (.load 1 false (.t 9))), ((some 11), (.mv (.t 1))), ((some 12), (.binI .sub (.t 11) (.v (.lit (.int .i64 (1)))))), ((some 13), (.call (.v (.lit (.func (.func 67) #[] #[]))) [(.t 10), (.v (.lit (.int .i64 (0)))), (.t 12)]))],
  .op (some 14) (.pick (.t 8) (.t 13) (.v (.lit (.bool false)))),
  .op (some 15) (.mv (.t 14)),
  .grp 15 true [((some 16), (.faddr 2 (.t 2))), ((some 17), (.load 2 true (.t 16))), ((some 18), (.call (.v (.lit (.func (.func 89) #[] #[]))) [(.t 17)]))],
  .op (some 19) (.pick (.t 15) (.t 18) (.v (.lit (.bool false)))),
  .op (some 4) (.mv (.t 19))])
 .ret))
def rs74 : List RR := [.tmp 4]
def cut74 : Nat → Nat := fun id => 0
theorem k74 : (Try.f74.body.bind fun c => comp Try.prog Try.f74.ntmps cut74 c) = some r74 := by kernel_rfl
theorem by74 {W0 : World} {σ : List Blk} {args : List AV} {K : Cont} (hn : args.length ≤ 20) (h : rW Try.prog W0 σ.length r74 (initFr args) σ (finP W0 rs74 σ.length K)) : ACall Try.prog W0 74 args σ K :=
  ACall.introR mixed Try.func74 (by kernel_rfl) k74 (by kernel_rfl) hn h
def r75 : RC := (.seq (.reg [.op (some 1) (.box 127 (.t 0)),
  .op (some 2) (.alloc 125 (List.replicate 4 (.lit (.int .i64 (0)))))])
 (.seq (.reg [.op (some 3) (.alloc 125 (List.replicate 4 (.lit (.int .i64 (0)))))])
 (.seq (.reg [.op (some 4) (.faddr 0 (.t 1)),
  .op (some 5) (.load 1 false (.t 4)),
  .op (some 6) (.faddr 0 (.t 3)),
  .op none (.store 1 (.t 6) (.t 5))])
 (.seq (.reg [.op (some 7) (.faddr 1 (.t 1)),
  .op (some 8) (.load 1 false (.t 7)),
  .op (some 9) (.faddr 1 (.t 3)),
  .op none (.store 1 (.t 9) (.t 8))])
 (.seq (.reg [.op (some 10) (.faddr 2 (.t 1)),
  .op (some 11) (.load 2 true (.t 10)),
  .op (some 12) (.call (.v (.lit (.func (.func 86) #[] #[]))) [(.t 11)]),
  .op (some 13) (.faddr 2 (.t 3)),
  .op none (.store 2 (.t 13) (.t 12))])
 (.seq (.reg [.op (some 14) (.load 4 true (.t 3)),
  .op none (.store 4 (.t 2) (.t 14))])
 .ret))))))
def rs75 : List RR := [.cell 2 4 true]
def cut75 : Nat → Nat := fun id => 0
theorem k75 : (Try.f75.body.bind fun c => comp Try.prog Try.f75.ntmps cut75 c) = some r75 := by kernel_rfl
theorem by75 {W0 : World} {σ : List Blk} {args : List AV} {K : Cont} (hn : args.length ≤ 15) (h : rW Try.prog W0 σ.length r75 (initFr args) σ (finP W0 rs75 σ.length K)) : ACall Try.prog W0 75 args σ K :=
  ACall.introR mixed Try.func75 (by kernel_rfl) k75 (by kernel_rfl) hn h
def r76 : RC := (.seq (.reg [.op (some 2) (.box 125 (.t 0)),
  .op (some 4) (.mv (.v (.lit (.bool false))))])
 (.seq (.reg [.op (some 5) (.faddr 0 (.t 2)),
  .op (some 6) (.load 1 false (.t 5)),
  .op (some 7) (.binI .geq (.t 6) (.v (.lit (.int .i64 (1))))),
  .op (some 8) (.mv (.t 7)),
  .grp 8 true [((some 9), (.faddr 0 (.t 2))), ((some 10), (.load 1 false (.t 9))), ((some 11), (.binI .leq (.t 10) (.v (.lit (.int .i64 (3))))))],
  .op (some 12) (.pick (.t 8) (.t 11) (.v (.lit (.bool false)))),
  .op (some 13) (.mv (.t 12)),
  .grp 13 true [((some 14), (.faddr 1 (.t 2))), ((some 15), (.load 1 false (.t 14))), ((some 16), (.binI .geq (.t 15) (.v (.lit (.int .i64 (0))))))],
  .op (some 17) (.pick (.t 13) (.t 16) (.v (.lit (.bool false)))),
  .op (some 18) (.mv (.t 17)),
  .grp 18 true [((some 19), (.faddr 1 (.t 2))), ((some 20), (.load 1 false (.t 19))), ((some 21), (.mv (.t 1))), ((some 22), (.binI .lss (.t 20) (.t 21)))],
  .op (some 23) (.pick (.t 18) (.t 22) (.v (.lit (.bool false)))),
  .op (some 24) (.mv (.t 23)),
  .grp 24 true [((some 25), (.faddr 2 (.t 2))), ((some 26), (.load 2 true (.t 25))), ((some 27), (.call (.v (.lit (.func (.func 90) #[] #[]))) [(.t 26)]))],
  .op (some 28) (.pick (.t 24) (.t 27) (.v (.lit (.bool false)))),
  .op (some 4) (.mv (.t 28))])
 .ret))
def rs76 : List RR := [.tmp 4]
def cut76 : Nat → Nat := fun id => 0
theorem k76 : (Try.f76.body.bind fun c => comp Try.prog Try.f76.ntmps cut76 c) = some r76 := by kernel_rfl
theorem by76 {W0 : World} {σ : List Blk} {args : List AV} {K : Cont} (hn : args.length ≤ 29) (h : rW Try.prog W0 σ.length r76 (initFr args) σ (finP W0 rs76 σ.length K)) : ACall Try.prog W0 76 args σ K :=
  ACall.introR mixed Try.func76 (by kernel_rfl) k76 (by kernel_rfl) hn h
def r77 : RC := (.seq (.reg [.op (some 4) (.mv (.v (.lit (.int .u64 (0)))))])
 (.seq (.reg [.op (some 5) (.mv (.t 0)),
  .op (some 6) (.mv (.t 1)),
  .op (some 7) (.binI .rem (.t 6) (.v (.lit (.int .i64 (6))))),
  .op (some 8) (.mv (.t 1)),
  .op (some 9) (.binI .quo (.t 8) (.v (.lit (.int .i64 (6))))),
  .op (some 10) (.call (.v (.lit (.func (.func 91) #[] #[]))) [(.t 5), (.t 7), (.t 9)]),
  .op (some 4) (.mv (.t 10))])
 .ret))
def rs77 : List RR := [.tmp 4]
def cut77 : Nat → Nat := fun id => 0
theorem k77 : (Try.f77.body.bind fun c => comp Try.prog Try.f77.ntmps cut77 c) = some r77 := by kernel_rfl
theorem by77 {W0 : World} {σ : List Blk} {args : List AV} {K : Cont} (hn : args.length ≤ 11) (h : rW Try.prog W0 σ.length r77 (initFr args) σ (finP W0 rs77 σ.length K)) : ACall Try.prog W0 77 args σ K :=
  ACall.introR mixed Try.func77 (by kernel_rfl) k77 (by kernel_rfl) hn h
def r78 : RC := (.seq (.reg [.op (some 1) (.box 102 (.t 0)),
  .op (some 2) (.mv (.v (.lit (.int .i64 (0)))))])
 (.seq (.reg [.op (some 3) (.iaddrA 2 1 (.t 1) (.v (.lit (.int .i64 (1))))),
  .op (some 4) (.load 1 false (.t 3)),
  .op (some 5) (.binI .mul (.t 4) (.v (.lit (.int .i64 (6))))),
  .op (some 6) (.iaddrA 2 1 (.t 1) (.v (.lit (.int .i64 (0))))),
  .op (some 7) (.load 1 false (.t 6)),
  .op (some 8) (.binI .add (.t 5) (.t 7)),
  .op (some 2) (.mv (.t 8))])
 .ret))
def rs78 : List RR := [.tmp 2]
def cut78 : Nat → Nat := fun id => 0
theorem k78 : (Try.f78.body.bind fun c => comp Try.prog Try.f78.ntmps cut78 c) = some r78 := by kernel_rfl
theorem by78 {W0 : World} {σ : List Blk} {args : List AV} {K : Cont} (hn : args.length ≤ 9) (h : rW Try.prog W0 σ.length r78 (initFr args) σ (finP W0 rs78 σ.length K)) : ACall Try.prog W0 78 args σ K :=
  ACall.introR mixed Try.func78 (by kernel_rfl) k78 (by kernel_rfl) hn h
def r79 : RC := (.seq (.reg [.op (some 4) (.mv (.v (.lit (.int .u64 (0)))))])
 (.seq (.reg [.op (some 5) (.mv (.t 0)),
  .op (some 6) (.mv (.t 1)),
  .op (some 7) (.binI .xor (.t 5) (.t 6)),
  .op (some 4) (.mv (.t 7))])
 .ret))
def rs79 : List RR := [.tmp 4]
def cut79 : Nat → Nat := fun id => 0
theorem k79 : (Try.f79.body.bind fun c => comp Try.prog Try.f79.ntmps cut79 c) = some r79 := by kernel_rfl
theorem by79 {W0 : World} {σ : List Blk} {args : List AV} {K : Cont} (hn : args.length ≤ 8) (h : rW Try.prog W0 σ.length r79 (initFr args) σ (finP W0 rs79 σ.length K)) : ACall Try.prog W0 79 args σ K :=
  ACall.introR mixed Try.func79 (by kernel_rfl) k79 (by kernel_rfl) hn h
def r80 : RC := (.seq (.reg [.op (some 4) (.mv (.v (.lit (.int .u64 (0)))))])
 (.seq (.reg [.op (some 5) (.mv (.t 0)),
  .op (some 6) (.mv (.t 1)),
  .op (some 7) (.binI .or (.t 5) (.t 6)),
  .op (some 4) (.mv (.t 7))])
 .ret))
def rs80 : List RR := [.tmp 4]
def cut80 : Nat → Nat := fun id => 0
theorem k80 : (Try.f80.body.bind fun c => comp Try.prog Try.f80.ntmps cut80 c) = some r80 := by kernel_rfl
theorem by80 {W0 : World} {σ : List Blk} {args : List AV} {K : Cont} (hn : args.length ≤ 8) (h : rW Try.prog W0 σ.length r80 (initFr args) σ (finP W0 rs80 σ.length K)) : ACall Try.prog W0 80 args σ K :=
  ACall.introR mixed Try.func80 (by kernel_rfl) k80 (by kernel_rfl) hn h
def r81 : RC := (.seq (.reg [.op (some 4) (.mv (.v (.lit (.int .u64 (0)))))])
 (.seq (.reg [.op (some 5) (.mv (.t 0)),
  .op (some 6) (.mv (.t 1)),
  .op (some 7) (.binI .andNot (.t 5) (.t 6)),
  .op (some 4) (.mv (.t 7))])
 .ret))
def rs81 : List RR := [.tmp 4]
def cut81 : Nat → Nat := fun id => 0
theorem k81 : (Try.f81.body.bind fun c => comp Try.prog Try.f81.ntmps cut81 c) = some r81 := by kernel_rfl
theorem by81 {W0 : World} {σ : List Blk} {args : List AV} {K : Cont} (hn : args.length ≤ 8) (h : rW Try.prog W0 σ.length r81 (initFr args) σ (finP W0 rs81 σ.length K)) : ACall Try.prog W0 81 args σ K :=
  ACall.introR mixed Try.func81 (by kernel_rfl) k81 (by kernel_rfl) hn h
def r82 : RC := (.seq (.reg [.op (some 4) (.mv (.v (.lit (.int .u64 (0)))))])
 (.seq (.reg [.op (some 5) (.load 1 false (.t 1)),
  .op (some 6) (.mv (.t 0)),
  .op (some 7) (.load 1 false (.t 2)),
  .op (some 8) (.call (.t 5) [(.t 6), (.t 7)]),
  .op (some 4) (.mv (.t 8))])
 .ret))
def rs82 : List RR := [.tmp 4]
def cut82 : Nat → Nat := fun id => 0
theorem k82 : (Try.f82.body.bind fun c => comp Try.prog Try.f82.ntmps cut82 c) = some r82 := by kernel_rfl
theorem by82 {W0 : World} {σ : List Blk} {args : List AV} {K : Cont} (hn : args.length ≤ 9) (h : rW Try.prog W0 σ.length r82 (initFr args) σ (finP W0 rs82 σ.length K)) : ACall Try.prog W0 82 args σ K :=
  ACall.introR mixed Try.func82 (by kernel_rfl) k82 (by kernel_rfl) hn h
def r83 : RC := (.seq (.reg [.op (some 2) (.box 125 (.t 0)),
  .op (some 3) (.box 125 (.t 1)),
  .op (some 4) (.mv (.v (.lit (.bool false))))])
 (.seq (.seq (.reg [.op (some 5) (.faddr 0 (.t 2)),
  .op (some 6) (.load 1 false (.t 5)),
  .op (some 7) (.faddr 0 (.t 3)),
  .op (some 8) (.load 1 false (.t 7)),
  .op (some 9) (.binI .neq (.t 6) (.t 8))])
 (.cond (.t 9)
 (.seq (.reg [.op (some 4) (.mv (.v (.lit (.bool false))))])
 .ret)
 .skip))
 (.seq (.seq (.reg [.op (some 10) (.faddr 1 (.t 2)),
  .op (some 11) (.load 1 false (.t 10)),
  .op (some 12) (.faddr 1 (.t 3)),
  .op (some 13) (.load 1 false (.t 12)),
  .op (some 14) (.binI .neq (.t 11) (.t 13))])
 (.cond (.t 14)
 (.seq (.reg [.op (some 4) (.mv (.v (.lit (.bool false))))])
 .ret)
 .skip))
 (.seq (.seq (.reg [.op (some 15) (.faddr 2 (.t 2)),
  .op (some 16) (.load 2 true (.t 15)),
  .op (some 17) (.faddr 2 (.t 3)),
  .op (some 18) (.load 2 true (.t 17)),
  .op (some 19) (.call (.v (.lit (.func (.func 65) #[] #[]))) [(.t 16), (.t 18)]),
  .op (some 20) (.un .not (.t 19))])
 (.cond (.t 20)
 (.seq (.reg [.op (some 4) (.mv (.v (.lit (.bool false))))])
 .ret)
 .skip))
 (.seq (.reg [.op (some 4) (.mv (.v (.lit (.bool true))))])
 .ret)))))
def rs83 : List RR := [.tmp 4]
def cut83 : Nat → Nat := fun id => 0
theorem k83 : (Try.f83.body.bind fun c => comp Try.prog Try.f83.ntmps cut83 c) = some r83 := by kernel_rfl
theorem by83 {W0 : World} {σ : List Blk} {args : List AV} {K : Cont} (hn : args.length ≤ 21) (h : rW Try.prog W0 σ.length r83 (initFr args) σ (finP W0 rs83 σ.length K)) : ACall Try.prog W0 83 args σ K :=
  ACall.introR mixed Try.func83 (by kernel_rfl) k83 (by kernel_rfl) hn h
def r84 : RC := (.seq (.reg [.op (some 1) (.box 104 (.t 0)),
  .op (some 2) (.mv (.v (.lit (.bool false))))])
 (.seq (.reg [.op (some 3) (.faddr 0 (.t 1)),
  .op (some 4) (.load 1 false (.t 3)),
  .op (some 5) (.call (.v (.lit (.func (.func 67) #[] #[]))) [(.t 4), (.v (.lit (.int .i64 (1)))), (.v (.lit (.int .i64 (4))))]),
  .op (some 6) (.mv (.t 5)),
  .grp 6 true [((some 7), (.faddr 1 (.t 1))), ((some 8), (.load 6 true (.t 7))), ((some 9), (.call (.v (.lit (.func (.func 42) #[] #[]))) [(.t 8)]))],
  .op (some 10) (.pick (.t 6) (.t 9) (.v (.lit (.bool false)))),
  .op (some 11) (.mv (.t 10)),
  .grp 11 true [((some 12), (.faddr 7 (.t 1))), ((some 13), (.load 2 true (.t 12))), ((some 14), (.call (.v (.lit (.func (.func 89) #[] #[]))) [(.t 13)]))],
  .op (some 15) (.pick (.t 11) (.t 14) (.v (.lit (.bool false)))),
  .op (some 2) (.mv (.t 15))])
 .ret))
def rs84 : List RR := [.tmp 2]
def cut84 : Nat → Nat := fun id => 0
theorem k84 : (Try.f84.body.bind fun c => comp Try.prog Try.f84.ntmps cut84 c) = some r84 := by kernel_rfl
theorem by84 {W0 : World} {σ : List Blk} {args : List AV} {K : Cont} (hn : args.length ≤ 16) (h : rW Try.prog W0 σ.length r84 (initFr args) σ (finP W0 rs84 σ.length K)) : ACall Try.prog W0 84 args σ K :=
  ACall.introR mixed Try.func84 (by kernel_rfl) k84 (by kernel_rfl) hn h
def r85 : RC := (.seq (.reg [.op (some 2) (.box 28 (.t 0)),
  .op (some 3) (.box 102 (.t 1)),
  .op (some 4) (.alloc 28 (List.replicate 6 (.lit (.int .i64 (0)))))])
 (.seq (.reg [.op (some 5) (.load 6 true (.t 2)),
  .op (some 6) (.iaddrA 2 1 (.t 3) (.v (.lit (.int .i64 (0))))),
  .op (some 7) (.load 1 false (.t 6)),
  .op (some 8) (.iaddrA 2 1 (.t 3) (.v (.lit (.int .i64 (1))))),
  .op (some 9) (.load 1 false (.t 8)),
  .op (some 10) (.call (.v (.lit (.func (.func 92) #[] #[]))) [(.t 5), (.t 7), (.t 9)]),
  .op none (.store 6 (.t 4) (.t 10))])
 .ret))
def rs85 : List RR := [.cell 4 6 true]
def cut85 : Nat → Nat := fun id => 0
theorem k85 : (Try.f85.body.bind fun c => comp Try.prog Try.f85.ntmps cut85 c) = some r85 := by kernel_rfl
theorem by85 {W0 : World} {σ : List Blk} {args : List AV} {K : Cont} (hn : args.length ≤ 11) (h : rW Try.prog W0 σ.length r85 (initFr args) σ (finP W0 rs85 σ.length K)) : ACall Try.prog W0 85 args σ K :=
  ACall.introR mixed Try.func85 (by kernel_rfl) k85 (by kernel_rfl) hn h
def r86 : RC := (.seq (.reg [.op (some 1) (.box 102 (.t 0)),
  .op (some 2) (.alloc 102 [(.lit (.int .i64 (0))), (.lit (.int .i64 (0)))])])
 (.seq (.reg [.op (some 3) (.alloc 102 [(.lit (.int .i64 (0))), (.lit (.int .i64 (0)))])])
 (.seq (.seq (.reg [.op (some 4) (.mv (.v (.lit (.int .i64 (0)))))])
 (.block 0 (.loop (.seq (.seq (.reg [.op (some 5) (.mv (.t 4)),
  .op (some 6) (.binI .lss (.t 5) (.v (.lit (.int .i64 (2)))))])
 (.cond (.t 6)
 .skip
 (.exit 0)))
 (.seq (.block 1 (.reg [.op (some 9) (.mv (.t 4)),
  .op (some 10) (.mv (.t 4)),
  .op (some 11) (.iaddrA 2 1 (.t 1) (.t 10)),
  .op (some 12) (.load 1 false (.t 11)),
  .op (some 13) (.iaddrA 2 1 (.t 3) (.t 9)),
  .op none (.store 1 (.t 13) (.t 12))]))
 (.reg [.op (some 7) (.mv (.t 4)),
  .op (some 8) (.binI .add (.t 7) (.v (.lit (.int .i64 (1))))),
  .op (some 4) (.mv (.t 8))]))))))
 (.seq (.reg [.op (some 14) (.load 2 true (.t 3)),
  .op none (.store 2 (.t 2) (.t 14))])
 .ret))))
def rs86 : List RR := [.cell 2 2 true]
def cut86 : Nat → Nat := fun id => 0
theorem k86 : (Try.f86.body.bind fun c => comp Try.prog Try.f86.ntmps cut86 c) = some r86 := by kernel_rfl
theorem by86 {W0 : World} {σ : List Blk} {args : List AV} {K : Cont} (hn : args.length ≤ 15) (h : rW Try.prog W0 σ.length r86 (initFr args) σ (finP W0 rs86 σ.length K)) : ACall Try.prog W0 86 args σ K :=
  ACall.introR mixed Try.func86 (by kernel_rfl) k86 (by kernel_rfl) hn h
def r87 : RC := (.seq (.reg [.op (some 1) (.box 104 (.t 0)),
  .op (some 2) (.mv (.v (.lit (.bool false))))])
 (.seq (.reg [.op (some 3) (.faddr 0 (.t 1)),
  .op (some 4) (.load 1 false (.t 3)),
  .op (some 5) (.binI .geq (.t 4) (.v (.lit (.int .i64 (1))))),
  .op (some 6) (.mv (.t 5)),
  .grp 6 true [((some 7), (.faddr 0 (.t 1))), ((some 8), (.load 1 false (.t 7))), ((some 9), (.binI .leq (.t 8) (.v (.lit (.int .i64 (4))))))],
  .op (some 10) (.pick (.t 6) (.t 9) (.v (.lit (.bool false)))),
  .op (some 11) (.mv (.t 10)),
  .grp 11 true [((some 12), (.faddr 1 (.t 1))), ((some 13), (.load 6 true (.t 12))), ((some 14), (.call (.v (.lit (.func (.func 41) #[] #[]))) [(.t 13)]))],
  .op (some 15) (.pick (.t 11) (.t 14) (.v (.lit (.bool false)))),
  .op (some 16) (.mv (.t 15)),
  .grp 16 true [((some 17), (.faddr 7 (.t 1))), ((some 18), (.load 2 true (.t 17))), ((some 19), (.call (.v (.lit (.func (.func 90) #[] #[]))) [(.t 18)]))],
  .op (some 20) (.pick (.t 16) (.t 19) (.v (.lit (.bool false)))),
  .op (some 2) (.mv (.t 20))])
 .ret))
def rs87 : List RR := [.tmp 2]
def cut87 : Nat → Nat := fun id => 0
theorem k87 : (Try.f87.body.bind fun c => comp Try.prog Try.f87.ntmps cut87 c) = some r87 := by kernel_rfl
theorem by87 {W0 : World} {σ : List Blk} {args : List AV} {K : Cont} (hn : args.length ≤ 21) (h : rW Try.prog W0 σ.length r87 (initFr args) σ (finP W0 rs87 σ.length K)) : ACall Try.prog W0 87 args σ K :=
  ACall.introR mixed Try.func87 (by kernel_rfl) k87 (by kernel_rfl) hn h
def r88 : RC := (.seq (.reg [.op (some 4) (.mv (.v (.lit (.int .i64 (0)))))])
 (.seq (.reg [.op (some 5) (.mv (.t 0)),
  .op (some 6) (.mv (.t 1)),
  .op (some 7) (.call (.v (.lit (.func (.func 93) #[] #[]))) [(.t 5), (.t 6)]),
  .op (some 4) (.mv (.t 7))])
 .ret))
def rs88 : List RR := [.tmp 4]
def cut88 : Nat → Nat := fun id => 0
theorem k88 : (Try.f88.body.bind fun c => comp Try.prog Try.f88.ntmps cut88 c) = some r88 := by kernel_rfl
theorem by88 {W0 : World} {σ : List Blk} {args : List AV} {K : Cont} (hn : args.length ≤ 8) (h : rW Try.prog W0 σ.length r88 (initFr args) σ (finP W0 rs88 σ.length K)) : ACall Try.prog W0 88 args σ K :=
  ACall.introR mixed Try.func88 (by kernel_rfl) k88 (by kernel_rfl) hn h
def r89 : RC := (.seq (.reg [.op (some 1) (.box 102 (.t 0)),
  .op (some 2) (.mv (.v (.lit (.bool false))))])
 (.seq (.reg [.op (some 3) (.iaddrA 2 1 (.t 1) (.v (.lit (.int .i64 (0))))),
  .op (some 4) (.load 1 false (.t 3)),
  .op (some 5) (.call (.v (.lit (.func (.func 67) #[] #[]))) [(.t 4), (.v (.lit (.int .i64 (0)))), (.v (.lit (.int .i64 (5))))]),
  .op (some 6) (.mv (.t 5)),
  .grp 6 true [((some 7), (.iaddrA 2 1 (.t 1) (.v (.lit (.int .i64 (1)))))), ((some 8), (.load 1 false (.t 7))), ((some 9), (.call (.v (.lit (.func (.func 67) #[] #[]))) [(.t 8), (.v (.lit (.int .i64 (0)))), (.v (.lit (.int .i64 (5))))]))],
  .op (some 10) (.pick (.t 6) (.t 9) (.v (.lit (.bool false)))),
  .op (some 2) (.mv (.t 10))])
 .ret))
def rs89 : List RR := [.tmp 2]
def cut89 : Nat → Nat := fun id => 0
theorem k89 : (Try.f89.body.bind fun c => comp Try.prog Try.f89.ntmps cut89 c) = some r89 := by kernel_rfl
theorem by89 {W0 : World} {σ : List Blk} {args : List AV} {K : Cont} (hn : args.length ≤ 11) (h : rW Try.prog W0 σ.length r89 (initFr args) σ (finP W0 rs89 σ.length K)) : ACall Try.prog W0 89 args σ K :=
  ACall.introR mixed Try.func89 (by kernel_rfl) k89 (by kernel_rfl) hn h
def r90 : RC := (.seq (.reg [.op (some 1) (.box 102 (.t 0)),
  .op (some 2) (.mv (.v (.lit (.bool false))))])
 (.seq (.reg [.op (some 3) (.iaddrA 2 1 (.t 1) (.v (.lit (.int .i64 (0))))),
  .op (some 4) (.load 1 false (.t 3)),
  .op (some 5) (.binI .geq (.t 4) (.v (.lit (.int .i64 (0))))),
  .op (some 6) (.mv (.t 5)),
  .grp 6 true [((some 7), (.iaddrA 2 1 (.t 1) (.v (.lit (.int .i64 (0)))))), ((some 8), (.load 1 false (.t 7))), ((some 9), (.binI .lss (.t 8) (.v (.lit (.int .i64 (6))))))],
  .op (some 10) (.pick (.t 6) (.t 9) (.v (.lit (.bool false)))),
  .op (some 11) (.mv (.t 10)),
  .grp 11 true [((some 12), (.iaddrA 2 1 (.t 1) (.v (.lit (.int .i64 (1)))))), ((some 13), (.load 1 false (.t 12))), ((some 14), (.binI .geq (.t 13) (.v (.lit (.int .i64 (0))))))],
  .op (some 15) (.pick (.t 11) (.t 14) (.v (.lit (.bool false)))),
  .op (some 16) (.mv (.t 15)),
  .grp 16 true [((some 17), (.iaddrA 2 1 (.t 1) (.v (.lit (.int .i64 (1)))))), ((some 18), (.load 1 false (.t 17))), ((some 19), (.binI .lss (.t 18) (.v (.lit (.int .i64 (6))))))],
  .op (some 20) (.pick (.t 16) (.t 19) (.v (.lit (.bool false)))),
  .op (some 2) (.mv (.t 20))])
 .ret))
def rs90 : List RR := [.tmp 2]
def cut90 : Nat → Nat := fun id => 0
theorem k90 : (Try.f90.body.bind fun c => comp Try.prog Try.f90.ntmps cut90 c) = some r90 := by kernel_rfl
theorem by90 {W0 : World} {σ : List Blk} {args : List AV} {K : Cont} (hn : args.length ≤ 21) (h : rW Try.prog W0 σ.length r90 (initFr args) σ (finP W0 rs90 σ.length K)) : ACall Try.prog W0 90 args σ K :=
  ACall.introR mixed Try.func90 (by kernel_rfl) k90 (by kernel_rfl) hn h
def r91 : RC := (.seq (.reg [.op (some 4) (.box 3 (.t 1)),
  .op (some 5) (.box 3 (.t 2)),
  .op (some 6) (.mv (.v (.lit (.int .u64 (0)))))])
 (.seq (.quiet [.op (some 7) (.load 1 false (.t 4)),
  .op (some 8) (.call (.v (.lit (.func (.func 94) #[] #[]))) [(.t 7)]),
  .op (some 9) (.load 1 false (.t 5)),
  .op (some 10) (.call (.v (.lit (.func (.func 94) #[] #[]))) [(.t 9)])] [.op none (.store 1 (.t 4) (.t 8)),
  .op none (.store 1 (.t 5) (.t 10))])
 (.seq (.reg [.op (some 11) (.mv (.t 0)),
  .op (some 12) (.mkfn (.func 96) [] [(.t 4), (.t 5)]),
  .op (some 13) (.call (.v (.lit (.func (.func 95) #[] #[]))) [(.t 11), (.t 12)]),
  .op (some 6) (.mv (.t 13))])
 .ret)))
def rs91 : List RR := [.tmp 6]
def cut91 : Nat → Nat := fun id => if id = 1 then 8 else 0
theorem k91 : (Try.f91.body.bind fun c => comp Try.prog Try.f91.ntmps cut91 c) = some r91 := by kernel_rfl
theorem by91 {W0 : World} {σ : List Blk} {args : List AV} {K : Cont} (hn : args.length ≤ 14) (h : rW Try.prog W0 σ.length r91 (initFr args) σ (finP W0 rs91 σ.length K)) : ACall Try.prog W0 91 args σ K :=
  ACall.introR mixed Try.func91 (by kernel_rfl) k91 (by kernel_rfl) hn h
def r92 : RC := (.seq (.reg [.op (some 3) (.box 28 (.t 0)),
  .op (some 6) (.alloc 28 (List.replicate 6 (.lit (.int .i64 (0)))))])
 (.seq (.reg [.op (some 12) (.build (List.replicate 6 (.lit (.int .i64 (0)))) []),
  .op (some 13) (.mv (.t 1)),
  .op (some 14) (.call (.v (.lit (.func (.func 97) #[] #[]))) [(.t 13)]),
  .op (some 15) (.mv (.t 2)),
  .op (some 16) (.call (.v (.lit (.func (.func 97) #[] #[]))) [(.t 15)]),
  .op (some 7) (.alloc 28 (List.replicate 6 (.lit (.int .i64 (0))))),
  .op none (.store 6 (.t 7) (.t 12)),
  .op (some 8) (.mv (.t 14)),
  .op (some 9) (.mv (.t 16))])
 (.seq (.seq (.reg [.op (some 10) (.mv (.v (.lit (.int .i64 (0)))))])
 (.block 0 (.loop (.seq (.seq (.reg [.op (some 17) (.mv (.t 10)),
  .op (some 18) (.binI .lss (.t 17) (.v (.lit (.int .i64 (6)))))])
 (.cond (.t 18)
 .skip
 (.exit 0)))
 (.seq (.block 1 (.seq (.reg [.op (some 21) (.mv (.t 10)),
  .op (some 22) (.faddr 0 (.t 3)),
  .op (some 23) (.iaddrA 6 1 (.t 22) (.t 21)),
  .op (some 24) (.load 1 false (.t 23)),
  .op (some 11) (.mv (.t 24))])
 (.draw [((some 25), (.mv (.t 10))), ((some 26), (.mv (.t 9))), ((some 27), (.binI .add (.t 25) (.t 26))), ((some 28), (.binI .rem (.t 27) (.v (.lit (.int .i64 (6)))))), ((some 29), (.mv (.t 11))), ((some 30), (.mv (.t 8))), ((some 31), (.binI .shl (.t 29) (.t 30))), ((some 32), (.binI .and (.t 31) (.v (.lit (.int .i64 (63)))))), ((some 33), (.mv (.t 11))), ((some 34), (.mv (.t 8))), ((some 35), (.binI .sub (.v (.lit (.int .i64 (6)))) (.t 34))), ((some 36), (.binI .shr (.t 33) (.t 35))), ((some 37), (.binI .or (.t 32) (.t 36)))] [((some 38), (.faddr 0 (.t 7))), ((some 39), (.iaddrA 6 1 (.t 38) (.t 28))), (none, (.store 1 (.t 39) (.t 37)))])))
 (.reg [.op (some 19) (.mv (.t 10)),
  .op (some 20) (.binI .add (.t 19) (.v (.lit (.int .i64 (1))))),
  .op (some 10) (.mv (.t 20))]))))))
 (.seq (.reg [.op (some 40) (.load 6 true (.t 7)),
  .op none (.store 6 (.t 6) (.t 40))])
 .ret))))
def rs92 : List RR := [.cell 6 6 true]
def cut92 : Nat → Nat := fun id => if id = 6 then 27 else 0
theorem k92 : (Try.f92.body.bind fun c => comp Try.prog Try.f92.ntmps cut92 c) = some r92 := by kernel_rfl
theorem by92 {W0 : World} {σ : List Blk} {args : List AV} {K : Cont} (hn : args.length ≤ 41) (h : rW Try.prog W0 σ.length r92 (initFr args) σ (finP W0 rs92 σ.length K)) : ACall Try.prog W0 92 args σ K :=
  ACall.introR mixed Try.func92 (by kernel_rfl) k92 (by kernel_rfl) hn h
def r93 : RC := (.seq (.reg [.op (some 4) (.mv (.v (.lit (.int .i64 (0)))))])
 (.seq (.reg [.op (some 14) (.mv (.t 1)),
  .op (some 15) (.lenS (.t 14)),
  .op (some 5) (.mv (.t 15))])
 (.seq (.block 0 (.seq (.reg [.op (some 17) (.mv (.t 5)),
  .op (some 18) (.binI .eql (.t 17) (.v (.lit (.int .i64 (0))))),
  .op (some 19) (.mv (.t 18)),
  .grp 19 false [((some 20), (.mv (.t 1))), ((some 21), (.mv (.t 0))), ((some 22), (.binS .eql (.t 20) (.t 21)))],
  .op (some 23) (.pick (.t 19) (.v (.lit (.bool true))) (.t 22)),
  .op (some 16) (.mv (.t 23))])
 (.cond (.t 16)
 (.seq (.reg [.op (some 4) (.mv (.v (.lit (.int .i64 (0)))))])
 .ret)
 (.seq (.reg [.op (some 25) (.mv (.t 5)),
  .op (some 26) (.binI .eql (.t 25) (.v (.lit (.int .i64 (1))))),
  .op (some 24) (.mv (.t 26))])
 (.cond (.t 24)
 (.seq (.reg [.op (some 27) (.mv (.t 0)),
  .op (some 28) (.mv (.t 1)),
  .op (some 29) (.idxS (.t 28) (.v (.lit (.int .i64 (0))))),
  .op (some 30) (.call (.v (.lit (.func (.func 98) #[] #[]))) [(.t 27), (.t 29)]),
  .op (some 4) (.mv (.t 30))])
 .ret)
 (.seq (.reg [.op (some 32) (.mv (.t 5)),
  .op (some 33) (.mv (.t 0)),
  .op (some 34) (.lenS (.t 33)),
  .op (some 35) (.binI .geq (.t 32) (.t 34)),
  .op (some 31) (.mv (.t 35))])
 (.cond (.t 31)
 (.seq (.reg [.op (some 4) (.mv (.v (.lit (.int .i64 (-1)))))])
 .ret)
 (.seq (.reg [.op (some 37) (.mv (.t 5)),
  .op (some 38) (.load 1 false (.v (.lit (.pointer (some ⟨0, 0, none⟩))))),
  .op (some 39) (.binI .leq (.t 37) (.t 38)),
  .op (some 40) (.mv (.t 39)),
  .grp 40 true [((some 41), (.mv (.t 0))), ((some 42), (.lenS (.t 41))), ((some 43), (.binI .leq (.t 42) (.v (.lit (.int .i64 (64))))))],
  .op (some 44) (.pick (.t 40) (.t 43) (.v (.lit (.bool false)))),
  .op (some 36) (.mv (.t 44))])
 (.cond (.t 36)
 (.seq (.reg [.op (some 45) (.mv (.t 0)),
  .op (some 46) (.mv (.t 1)),
  .op (some 47) (.call (.v (.lit (.func (.func 99) #[] #[]))) [(.t 45), (.t 46)]),
  .op (some 4) (.mv (.t 47))])
 .ret)
 .skip)))))))))
 (.seq (.reg [.op (some 48) (.mv (.t 1)),
  .op (some 49) (.idxS (.t 48) (.v (.lit (.int .i64 (0))))),
  .op (some 6) (.mv (.t 49))])
 (.seq (.reg [.op (some 50) (.mv (.t 1)),
  .op (some 51) (.idxS (.t 50) (.v (.lit (.int .i64 (1))))),
  .op (some 7) (.mv (.t 51))])
 (.seq (.reg [.op (some 8) (.mv (.v (.lit (.int .i64 (0)))))])
 (.seq (.reg [.op (some 52) (.mv (.t 0)),
  .op (some 53) (.lenS (.t 52)),
  .op (some 54) (.mv (.t 5)),
  .op (some 55) (.binI .sub (.t 53) (.t 54)),
  .op (some 56) (.binI .add (.t 55) (.v (.lit (.int .i64 (1))))),
  .op (some 9) (.mv (.t 56))])
 (.seq (.reg [.op (some 10) (.mv (.v (.lit (.int .i64 (0)))))])
 (.seq (.block 1 (.loop (.seq (.seq (.reg [.op (some 57) (.mv (.t 8)),
  .op (some 58) (.mv (.t 9)),
  .op (some 59) (.binI .lss (.t 57) (.t 58))])
 (.cond (.t 59)
 .skip
 (.exit 1)))
 (.block 2 (.seq (.seq (.reg [.op (some 60) (.mv (.t 0)),
  .op (some 61) (.mv (.t 8)),
  .op (some 62) (.idxS (.t 60) (.t 61)),
  .op (some 63) (.mv (.t 6)),
  .op (some 64) (.binI .neq (.t 62) (.t 63))])
 (.cond (.t 64)
 (.seq (.reg [.op (some 65) (.mv (.t 0)),
  .op (some 66) (.mv (.t 8)),
  .op (some 67) (.binI .add (.t 66) (.v (.lit (.int .i64 (1))))),
  .op (some 68) (.mv (.t 9)),
  .op (some 69) (.sliceS (.t 65) (some (.t 67)) (some (.t 68))),
  .op (some 70) (.mv (.t 6)),
  .op (some 71) (.call (.v (.lit (.func (.func 98) #[] #[]))) [(.t 69), (.t 70)]),
  .op (some 11) (.mv (.t 71))])
 (.seq (.seq (.reg [.op (some 72) (.mv (.t 11)),
  .op (some 73) (.binI .lss (.t 72) (.v (.lit (.int .i64 (0)))))])
 (.cond (.t 73)
 (.seq (.reg [.op (some 4) (.mv (.v (.lit (.int .i64 (-1)))))])
 .ret)
 .skip))
 (.reg [.op (some 74) (.mv (.t 8)),
  .op (some 75) (.mv (.t 11)),
  .op (some 76) (.binI .add (.t 75) (.v (.lit (.int .i64 (1))))),
  .op (some 77) (.binI .add (.t 74) (.t 76)),
  .op (some 8) (.mv (.t 77))])))
 .skip))
 (.seq (.seq (.reg [.op (some 78) (.mv (.t 0)),
  .op (some 79) (.mv (.t 8)),
  .op (some 80) (.binI .add (.t 79) (.v (.lit (.int .i64 (1))))),
  .op (some 81) (.idxS (.t 78) (.t 80)),
  .op (some 82) (.mv (.t 7)),
  .op (some 83) (.binI .eql (.t 81) (.t 82)),
  .op (some 84) (.mv (.t 83)),
  .grp 84 true [((some 85), (.mv (.t 0))), ((some 86), (.mv (.t 8))), ((some 87), (.mv (.t 8))), ((some 88), (.mv (.t 5))), ((some 89), (.binI .add (.t 87) (.t 88))), ((some 90), (.sliceS (.t 85) (some (.t 86)) (some (.t 89)))), ((some 91), (.mv (.t 1))), ((some 92), (.binS .eql (.t 90) (.t 91)))],
  .op (some 93) (.pick (.t 84) (.t 92) (.v (.lit (.bool false))))])
 (.cond (.t 93)
 (.seq (.reg [.op (some 94) (.mv (.t 8)),
  .op (some 4) (.mv (.t 94))])
 .ret)
 .skip))
 (.seq (.reg [.op (some 95) (.mv (.t 8)),
  .op (some 96) (.binI .add (.t 95) (.v (.lit (.int .i64 (1))))),
  .op (some 8) (.mv (.t 96))])
 (.seq (.reg [.op (some 97) (.mv (.t 10)),
  .op (some 98) (.binI .add (.t 97) (.v (.lit (.int .i64 (1))))),
  .op (some 10) (.mv (.t 98))])
 (.seq (.reg [.op (some 99) (.mv (.t 5)),
  .op (some 100) (.load 1 false (.v (.lit (.pointer (some ⟨0, 0, none⟩))))),
  .op (some 101) (.binI .leq (.t 99) (.t 100)),
  .op (some 102) (.mv (.t 101)),
  .grp 102 true [((some 103), (.mv (.t 10))), ((some 104), (.mv (.t 8))), ((some 105), (.call (.v (.lit (.func (.func 100) #[] #[]))) [(.t 104)])), ((some 106), (.binI .gtr (.t 103) (.t 105)))],
  .op (some 107) (.pick (.t 102) (.t 106) (.v (.lit (.bool false))))])
 (.cond (.t 107)
 (.seq (.reg [.op (some 108) (.mv (.t 0)),
  .op (some 109) (.mv (.t 8)),
  .op (some 110) (.sliceS (.t 108) (some (.t 109)) none),
  .op (some 111) (.mv (.t 1)),
  .op (some 112) (.call (.v (.lit (.func (.func 99) #[] #[]))) [(.t 110), (.t 111)]),
  .op (some 12) (.mv (.t 112))])
 (.seq (.seq (.reg [.op (some 113) (.mv (.t 12)),
  .op (some 114) (.binI .geq (.t 113) (.v (.lit (.int .i64 (0)))))])
 (.cond (.t 114)
 (.seq (.reg [.op (some 115) (.mv (.t 12)),
  .op (some 116) (.mv (.t 8)),
  .op (some 117) (.binI .add (.t 115) (.t 116)),
  .op (some 4) (.mv (.t 117))])
 .ret)
 .skip))
 (.seq (.reg [.op (some 4) (.mv (.v (.lit (.int .i64 (-1)))))])
 .ret)))
 (.seq (.reg [.op (some 118) (.mv (.t 5)),
  .op (some 119) (.load 1 false (.v (.lit (.pointer (some ⟨0, 0, none⟩))))),
  .op (some 120) (.binI .gtr (.t 118) (.t 119)),
  .op (some 121) (.mv (.t 120)),
  .grp 121 true [((some 122), (.mv (.t 10))), ((some 123), (.mv (.t 8))), ((some 124), (.binI .shr (.t 123) (.v (.lit (.int .u64 (4)))))), ((some 125), (.binI .add (.v (.lit (.int .i64 (4)))) (.t 124))), ((some 126), (.binI .geq (.t 122) (.t 125)))],
  .op (some 127) (.pick (.t 121) (.t 126) (.v (.lit (.bool false)))),
  .op (some 128) (.mv (.t 127)),
  .grp 128 true [((some 129), (.mv (.t 8))), ((some 130), (.mv (.t 9))), ((some 131), (.binI .lss (.t 129) (.t 130)))],
  .op (some 132) (.pick (.t 128) (.t 131) (.v (.lit (.bool false))))])
 (.cond (.t 132)
 (.seq (.reg [.op (some 133) (.mv (.t 0)),
  .op (some 134) (.mv (.t 8)),
  .op (some 135) (.sliceS (.t 133) (some (.t 134)) none),
  .op (some 136) (.mv (.t 1)),
  .op (some 137) (.call (.v (.lit (.func (.func 101) #[] #[]))) [(.t 135), (.t 136)]),
  .op (some 13) (.mv (.t 137))])
 (.seq (.seq (.reg [.op (some 138) (.mv (.t 13)),
  .op (some 139) (.binI .lss (.t 138) (.v (.lit (.int .i64 (0)))))])
 (.cond (.t 139)
 (.seq (.reg [.op (some 4) (.mv (.v (.lit (.int .i64 (-1)))))])
 .ret)
 .skip))
 (.seq (.reg [.op (some 140) (.mv (.t 8)),
  .op (some 141) (.mv (.t 13)),
  .op (some 142) (.binI .add (.t 140) (.t 141)),
  .op (some 4) (.mv (.t 142))])
 .ret)))
 .skip))))))))))))
 (.seq (.reg [.op (some 4) (.mv (.v (.lit (.int .i64 (-1)))))])
 .ret))))))))))
def rs93 : List RR := [.tmp 4]
def cut93 : Nat → Nat := fun id => 0
theorem k93 : (Try.f93.body.bind fun c => comp Try.prog Try.f93.ntmps cut93 c) = some r93 := by kernel_rfl
theorem by93 {W0 : World} {σ : List Blk} {args : List AV} {K : Cont} (hn : args.length ≤ 143) (h : rW Try.prog W0 σ.length r93 (initFr args) σ (finP W0 rs93 σ.length K)) : ACall Try.prog W0 93 args σ K :=
  ACall.introR mixed Try.func93 (by kernel_rfl) k93 (by kernel_rfl) hn h
def r94 : RC := (.seq (.reg [.op (some 2) (.mv (.v (.lit (.int .i64 (0)))))])
 (.seq (.reg [.op (some 3) (.mv (.t 0)),
  .op (some 4) (.binI .rem (.t 3) (.v (.lit (.int .i64 (6))))),
  .op (some 5) (.binI .add (.t 4) (.v (.lit (.int .i64 (6))))),
  .op (some 6) (.binI .rem (.t 5) (.v (.lit (.int .i64 (6))))),
  .op (some 2) (.mv (.t 6))])
 .ret))
def rs94 : List RR := [.tmp 2]
def cut94 : Nat → Nat := fun id => 0
theorem k94 : (Try.f94.body.bind fun c => comp Try.prog Try.f94.ntmps cut94 c) = some r94 := by kernel_rfl
theorem by94 {W0 : World} {σ : List Blk} {args : List AV} {K : Cont} (hn : args.length ≤ 7) (h : rW Try.prog W0 σ.length r94 (initFr args) σ (finP W0 rs94 σ.length K)) : ACall Try.prog W0 94 args σ K :=
  ACall.introR mixed Try.func94 (by kernel_rfl) k94 (by kernel_rfl) hn h
def r95 : RC := (.seq (.reg [.op (some 4) (.mv (.v (.lit (.int .u64 (0)))))])
 (.seq (.reg [.op (some 5) (.mv (.v (.lit (.int .u64 (0)))))])
 (.seq (.seq (.reg [.op (some 9) (.mv (.v (.lit (.int .i64 (0)))))])
 (.block 0 (.loop (.seq (.reg [.op (some 10) (.binI .lss (.t 9) (.v (.lit (.int .i64 (36)))))])
 (.seq (.cond (.t 10)
 .skip
 (.exit 0))
 (.seq (.block 1 (.seq (.reg [.op (some 11) (.mv (.t 9)),
  .op (some 6) (.mv (.t 11))])
 (.seq (.reg [.op (some 12) (.mv (.t 0)),
  .op (some 13) (.mv (.t 6)),
  .op (some 14) (.call (.v (.lit (.func (.func 102) #[] #[]))) [(.t 12), (.t 13)])])
 (.cond (.t 14)
 (.seq (.reg [.op (some 16) (.mv (.t 1)),
  .op (some 17) (.mv (.t 6)),
  .op (some 18) (.binI .rem (.t 17) (.v (.lit (.int .i64 (6))))),
  .op (some 19) (.mv (.t 6)),
  .op (some 20) (.binI .quo (.t 19) (.v (.lit (.int .i64 (6))))),
  .op (some 21) (.call (.t 16) [(.t 18), (.t 20)]),
  .op (some 15) (.mv (.t 21)),
  .op (some 22) (.ext (.t 15) 0),
  .op (some 23) (.ext (.t 15) 1),
  .op (some 7) (.mv (.t 22)),
  .op (some 8) (.mv (.t 23))])
 (.reg [.op (some 24) (.mv (.t 5)),
  .op (some 25) (.mv (.t 8)),
  .op (some 26) (.binI .mul (.t 25) (.v (.lit (.int .i64 (6))))),
  .op (some 27) (.mv (.t 7)),
  .op (some 28) (.binI .add (.t 26) (.t 27)),
  .op (some 29) (.binI .shl (.v (.lit (.int .u64 (1)))) (.t 28)),
  .op (some 30) (.binI .or (.t 24) (.t 29)),
  .op (some 5) (.mv (.t 30))]))
 .skip))))
 (.reg [.op (some 31) (.binI .add (.t 9) (.v (.lit (.int .i64 (1))))),
  .op (some 9) (.mv (.t 31))])))))))
 (.seq (.reg [.op (some 32) (.mv (.t 5)),
  .op (some 4) (.mv (.t 32))])
 .ret))))
def rs95 : List RR := [.tmp 4]
def cut95 : Nat → Nat := fun id => 0
theorem k95 : (Try.f95.body.bind fun c => comp Try.prog Try.f95.ntmps cut95 c) = some r95 := by kernel_rfl
theorem by95 {W0 : World} {σ : List Blk} {args : List AV} {K : Cont} (hn : args.length ≤ 33) (h : rW Try.prog W0 σ.length r95 (initFr args) σ (finP W0 rs95 σ.length K)) : ACall Try.prog W0 95 args σ K :=
  ACall.introR mixed Try.func95 (by kernel_rfl) k95 (by kernel_rfl) hn h
def r96 : RC := (.seq (.reg [.op (some 6) (.mv (.v (.lit (.int .i64 (0))))),
  .op (some 7) (.mv (.v (.lit (.int .i64 (0)))))])
 (.seq (.draw [((some 8), (.mv (.t 0))), ((some 9), (.load 1 false (.t 2))), ((some 10), (.binI .add (.t 8) (.t 9))), ((some 11), (.binI .rem (.t 10) (.v (.lit (.int .i64 (6)))))), ((some 12), (.mv (.t 1))), ((some 13), (.load 1 false (.t 3))), ((some 14), (.binI .add (.t 12) (.t 13))), ((some 15), (.binI .rem (.t 14) (.v (.lit (.int .i64 (6)))))), ((some 6), (.mv (.t 11))), ((some 7), (.mv (.t 15)))] [])
 .ret))
def rs96 : List RR := [.tmp 6, .tmp 7]
def cut96 : Nat → Nat := fun id => if id = 1 then 21 else 0
theorem k96 : (Try.f96.body.bind fun c => comp Try.prog Try.f96.ntmps cut96 c) = some r96 := by kernel_rfl
theorem by96 {W0 : World} {σ : List Blk} {args : List AV} {K : Cont} (hn : args.length ≤ 16) (h : rW Try.prog W0 σ.length r96 (initFr args) σ (finP W0 rs96 σ.length K)) : ACall Try.prog W0 96 args σ K :=
  ACall.introR mixed Try.func96 (by kernel_rfl) k96 (by kernel_rfl) hn h
def r97 : RC := (.seq (.reg [.op (some 2) (.mv (.v (.lit (.int .i64 (0)))))])
 (.seq (.reg [.op (some 3) (.mv (.t 0)),
  .op (some 4) (.binI .rem (.t 3) (.v (.lit (.int .i64 (6))))),
  .op (some 5) (.binI .add (.t 4) (.v (.lit (.int .i64 (6))))),
  .op (some 6) (.binI .rem (.t 5) (.v (.lit (.int .i64 (6))))),
  .op (some 2) (.mv (.t 6))])
 .ret))
def rs97 : List RR := [.tmp 2]
def cut97 : Nat → Nat := fun id => 0
theorem k97 : (Try.f97.body.bind fun c => comp Try.prog Try.f97.ntmps cut97 c) = some r97 := by kernel_rfl
theorem by97 {W0 : World} {σ : List Blk} {args : List AV} {K : Cont} (hn : args.length ≤ 7) (h : rW Try.prog W0 σ.length r97 (initFr args) σ (finP W0 rs97 σ.length K)) : ACall Try.prog W0 97 args σ K :=
  ACall.introR mixed Try.func97 (by kernel_rfl) k97 (by kernel_rfl) hn h
def r98 : RC := (.seq (.reg [.op (some 4) (.mv (.v (.lit (.int .i64 (0)))))])
 (.seq (.reg [.op (some 5) (.mv (.t 0)),
  .op (some 6) (.mv (.t 1)),
  .op (some 7) (.call (.v (.lit (.func (.func 103) #[] #[]))) [(.t 5), (.t 6)]),
  .op (some 4) (.mv (.t 7))])
 .ret))
def rs98 : List RR := [.tmp 4]
def cut98 : Nat → Nat := fun id => 0
theorem k98 : (Try.f98.body.bind fun c => comp Try.prog Try.f98.ntmps cut98 c) = some r98 := by kernel_rfl
theorem by98 {W0 : World} {σ : List Blk} {args : List AV} {K : Cont} (hn : args.length ≤ 8) (h : rW Try.prog W0 σ.length r98 (initFr args) σ (finP W0 rs98 σ.length K)) : ACall Try.prog W0 98 args σ K :=
  ACall.introR mixed Try.func98 (by kernel_rfl) k98 (by kernel_rfl) hn h
def r100 : RC := (.seq (.reg [.op (some 2) (.mv (.v (.lit (.int .i64 (0)))))])
 (.seq (.reg [.op (some 3) (.mv (.t 0)),
  .op (some 4) (.binI .add (.t 3) (.v (.lit (.int .i64 (16))))),
  .op (some 5) (.binI .quo (.t 4) (.v (.lit (.int .i64 (8))))),
  .op (some 2) (.mv (.t 5))])
 .ret))
def rs100 : List RR := [.tmp 2]
def cut100 : Nat → Nat := fun id => 0
theorem k100 : (Try.f100.body.bind fun c => comp Try.prog Try.f100.ntmps cut100 c) = some r100 := by kernel_rfl
theorem by100 {W0 : World} {σ : List Blk} {args : List AV} {K : Cont} (hn : args.length ≤ 6) (h : rW Try.prog W0 σ.length r100 (initFr args) σ (finP W0 rs100 σ.length K)) : ACall Try.prog W0 100 args σ K :=
  ACall.introR mixed Try.func100 (by kernel_rfl) k100 (by kernel_rfl) hn h
def r101 : RC := (.seq (.reg [.op (some 4) (.mv (.v (.lit (.int .i64 (0)))))])
 (.seq (.reg [.op (some 12) (.mv (.t 1)),
  .op (some 13) (.call (.v (.lit (.func (.func 104) #[] #[]))) [(.t 12)]),
  .op (some 11) (.mv (.t 13)),
  .op (some 14) (.ext (.t 11) 0),
  .op (some 15) (.ext (.t 11) 1),
  .op (some 5) (.mv (.t 14)),
  .op (some 6) (.mv (.t 15))])
 (.seq (.reg [.op (some 16) (.mv (.t 1)),
  .op (some 17) (.lenS (.t 16)),
  .op (some 7) (.mv (.t 17))])
 (.seq (.reg [.op (some 8) (.mv (.v (.lit (.int .u32 (0)))))])
 (.seq (.seq (.reg [.op (some 9) (.mv (.v (.lit (.int .i64 (0)))))])
 (.block 0 (.loop (.seq (.seq (.reg [.op (some 18) (.mv (.t 9)),
  .op (some 19) (.mv (.t 7)),
  .op (some 20) (.binI .lss (.t 18) (.t 19))])
 (.cond (.t 20)
 .skip
 (.exit 0)))
 (.seq (.block 1 (.reg [.op (some 23) (.mv (.t 8)),
  .op (some 24) (.binI .mul (.t 23) (.v (.lit (.int .u32 (16777619))))),
  .op (some 25) (.mv (.t 0)),
  .op (some 26) (.mv (.t 9)),
  .op (some 27) (.idxS (.t 25) (.t 26)),
  .op (some 28) (.conv .u32 (.t 27)),
  .op (some 29) (.binI .add (.t 24) (.t 28)),
  .op (some 8) (.mv (.t 29))]))
 (.reg [.op (some 21) (.mv (.t 9)),
  .op (some 22) (.binI .add (.t 21) (.v (.lit (.int .i64 (1))))),
  .op (some 9) (.mv (.t 22))]))))))
 (.seq (.seq (.reg [.op (some 30) (.mv (.t 8)),
  .op (some 31) (.mv (.t 5)),
  .op (some 32) (.binI .eql (.t 30) (.t 31)),
  .op (some 33) (.mv (.t 32)),
  .grp 33 true [((some 34), (.mv (.t 0))), ((some 35), (.mv (.t 7))), ((some 36), (.sliceS (.t 34) none (some (.t 35)))), ((some 37), (.mv (.t 1))), ((some 38), (.binS .eql (.t 36) (.t 37)))],
  .op (some 39) (.pick (.t 33) (.t 38) (.v (.lit (.bool false))))])
 (.cond (.t 39)
 (.seq (.reg [.op (some 4) (.mv (.v (.lit (.int .i64 (0)))))])
 .ret)
 .skip))
 (.seq (.seq (.reg [.op (some 40) (.mv (.t 7)),
  .op (some 10) (.mv (.t 40))])
 (.block 2 (.loop (.seq (.seq (.reg [.op (some 41) (.mv (.t 10)),
  .op (some 42) (.mv (.t 0)),
  .op (some 43) (.lenS (.t 42)),
  .op (some 44) (.binI .lss (.t 41) (.t 43))])
 (.cond (.t 44)
 .skip
 (.exit 2)))
 (.block 3 (.seq (.reg [.op (some 45) (.mv (.t 8)),
  .op (some 46) (.binI .mul (.t 45) (.v (.lit (.int .u32 (16777619))))),
  .op (some 8) (.mv (.t 46))])
 (.seq (.reg [.op (some 47) (.mv (.t 8)),
  .op (some 48) (.mv (.t 0)),
  .op (some 49) (.mv (.t 10)),
  .op (some 50) (.idxS (.t 48) (.t 49)),
  .op (some 51) (.conv .u32 (.t 50)),
  .op (some 52) (.binI .add (.t 47) (.t 51)),
  .op (some 8) (.mv (.t 52))])
 (.seq (.reg [.op (some 53) (.mv (.t 8)),
  .op (some 54) (.mv (.t 6)),
  .op (some 55) (.mv (.t 0)),
  .op (some 56) (.mv (.t 10)),
  .op (some 57) (.mv (.t 7)),
  .op (some 58) (.binI .sub (.t 56) (.t 57)),
  .op (some 59) (.idxS (.t 55) (.t 58)),
  .op (some 60) (.conv .u32 (.t 59)),
  .op (some 61) (.binI .mul (.t 54) (.t 60)),
  .op (some 62) (.binI .sub (.t 53) (.t 61)),
  .op (some 8) (.mv (.t 62))])
 (.seq (.reg [.op (some 63) (.mv (.t 10)),
  .op (some 64) (.binI .add (.t 63) (.v (.lit (.int .i64 (1))))),
  .op (some 10) (.mv (.t 64))])
 (.seq (.reg [.op (some 65) (.mv (.t 8)),
  .op (some 66) (.mv (.t 5)),
  .op (some 67) (.binI .eql (.t 65) (.t 66)),
  .op (some 68) (.mv (.t 67)),
  .grp 68 true [((some 69), (.mv (.t 0))), ((some 70), (.mv (.t 10))), ((some 71), (.mv (.t 7))), ((some 72), (.binI .sub (.t 70) (.t 71))), ((some 73), (.mv (.t 10))), ((some 74), (.sliceS (.t 69) (some (.t 72)) (some (.t 73)))), ((some 75), (.mv (.t 1))), ((some 76), (.binS .eql (.t 74) (.t 75)))],
  .op (some 77) (.pick (.t 68) (.t 76) (.v (.lit (.bool false))))])
 (.cond (.t 77)
 (.seq (.reg [.op (some 78) (.mv (.t 10)),
  .op (some 79) (.mv (.t 7)),
  .op (some 80) (.binI .sub (.t 78) (.t 79)),
  .op (some 4) (.mv (.t 80))])
 .ret)
 .skip)))))))))))
 (.seq (.reg [.op (some 4) (.mv (.v (.lit (.int .i64 (-1)))))])
 .ret))))))))
def rs101 : List RR := [.tmp 4]
def cut101 : Nat → Nat := fun id => 0
theorem k101 : (Try.f101.body.bind fun c => comp Try.prog Try.f101.ntmps cut101 c) = some r101 := by kernel_rfl
theorem by101 {W0 : World} {σ : List Blk} {args : List AV} {K : Cont} (hn : args.length ≤ 81) (h : rW Try.prog W0 σ.length r101 (initFr args) σ (finP W0 rs101 σ.length K)) : ACall Try.prog W0 101 args σ K :=
  ACall.introR mixed Try.func101 (by kernel_rfl) k101 (by kernel_rfl) hn h
def r102 : RC := (.seq (.reg [.op (some 4) (.mv (.v (.lit (.bool false))))])
 (.seq (.reg [.op (some 5) (.mv (.t 0)),
  .op (some 6) (.mv (.t 1)),
  .op (some 7) (.binI .shr (.t 5) (.t 6)),
  .op (some 8) (.binI .and (.t 7) (.v (.lit (.int .u64 (1))))),
  .op (some 9) (.binI .eql (.t 8) (.v (.lit (.int .u64 (1))))),
  .op (some 4) (.mv (.t 9))])
 .ret))
def rs102 : List RR := [.tmp 4]
def cut102 : Nat → Nat := fun id => 0
theorem k102 : (Try.f102.body.bind fun c => comp Try.prog Try.f102.ntmps cut102 c) = some r102 := by kernel_rfl
theorem by102 {W0 : World} {σ : List Blk} {args : List AV} {K : Cont} (hn : args.length ≤ 10) (h : rW Try.prog W0 σ.length r102 (initFr args) σ (finP W0 rs102 σ.length K)) : ACall Try.prog W0 102 args σ K :=
  ACall.introR mixed Try.func102 (by kernel_rfl) k102 (by kernel_rfl) hn h
def r104 : RC := (.seq (.reg [.op (some 2) (.mv (.v (.lit (.int .u32 (0))))),
  .op (some 3) (.mv (.v (.lit (.int .u32 (0)))))])
 (.seq (.reg [.op (some 4) (.mv (.v (.lit (.int .u32 (0)))))])
 (.seq (.seq (.reg [.op (some 5) (.mv (.v (.lit (.int .i64 (0)))))])
 (.block 0 (.loop (.seq (.seq (.reg [.op (some 9) (.mv (.t 5)),
  .op (some 10) (.mv (.t 0)),
  .op (some 11) (.lenS (.t 10)),
  .op (some 12) (.binI .lss (.t 9) (.t 11))])
 (.cond (.t 12)
 .skip
 (.exit 0)))
 (.seq (.block 1 (.reg [.op (some 15) (.mv (.t 4)),
  .op (some 16) (.binI .mul (.t 15) (.v (.lit (.int .u32 (16777619))))),
  .op (some 17) (.mv (.t 0)),
  .op (some 18) (.mv (.t 5)),
  .op (some 19) (.idxS (.t 17) (.t 18)),
  .op (some 20) (.conv .u32 (.t 19)),
  .op (some 21) (.binI .add (.t 16) (.t 20)),
  .op (some 4) (.mv (.t 21))]))
 (.reg [.op (some 13) (.mv (.t 5)),
  .op (some 14) (.binI .add (.t 13) (.v (.lit (.int .i64 (1))))),
  .op (some 5) (.mv (.t 14))]))))))
 (.seq (.reg [.op (some 6) (.mv (.v (.lit (.int .u32 (1))))),
  .op (some 7) (.mv (.v (.lit (.int .u32 (16777619)))))])
 (.seq (.seq (.reg [.op (some 22) (.mv (.t 0)),
  .op (some 23) (.lenS (.t 22)),
  .op (some 8) (.mv (.t 23))])
 (.block 2 (.loop (.seq (.seq (.reg [.op (some 24) (.mv (.t 8)),
  .op (some 25) (.binI .gtr (.t 24) (.v (.lit (.int .i64 (0)))))])
 (.cond (.t 25)
 .skip
 (.exit 2)))
 (.seq (.block 3 (.seq (.seq (.reg [.op (some 28) (.mv (.t 8)),
  .op (some 29) (.binI .and (.t 28) (.v (.lit (.int .i64 (1))))),
  .op (some 30) (.binI .neq (.t 29) (.v (.lit (.int .i64 (0)))))])
 (.cond (.t 30)
 (.reg [.op (some 31) (.mv (.t 6)),
  .op (some 32) (.mv (.t 7)),
  .op (some 33) (.binI .mul (.t 31) (.t 32)),
  .op (some 6) (.mv (.t 33))])
 .skip))
 (.reg [.op (some 34) (.mv (.t 7)),
  .op (some 35) (.mv (.t 7)),
  .op (some 36) (.binI .mul (.t 34) (.t 35)),
  .op (some 7) (.mv (.t 36))])))
 (.reg [.op (some 26) (.mv (.t 8)),
  .op (some 27) (.binI .shr (.t 26) (.v (.lit (.int .u64 (1))))),
  .op (some 8) (.mv (.t 27))]))))))
 (.seq (.reg [.op (some 37) (.mv (.t 4)),
  .op (some 38) (.mv (.t 6)),
  .op (some 2) (.mv (.t 37)),
  .op (some 3) (.mv (.t 38))])
 .ret))))))
def rs104 : List RR := [.tmp 2, .tmp 3]
def cut104 : Nat → Nat := fun id => 0
theorem k104 : (Try.f104.body.bind fun c => comp Try.prog Try.f104.ntmps cut104 c) = some r104 := by kernel_rfl
theorem by104 {W0 : World} {σ : List Blk} {args : List AV} {K : Cont} (hn : args.length ≤ 39) (h : rW Try.prog W0 σ.length r104 (initFr args) σ (finP W0 rs104 σ.length K)) : ACall Try.prog W0 104 args σ K :=
  ACall.introR mixed Try.func104 (by kernel_rfl) k104 (by kernel_rfl) hn h

end Go.Proofs.Ytjodbhpknbgieaa
