/- The resolved code of the functions that are reached, and that it stands for the program's own. -/
import Derived.Test.YtlmplfgnhibfcaaDoorAbsN
import Derived.Test.YtlmplfgnhibfcaaDoorProg
set_option linter.unusedVariables false
namespace Go.Proofs.YtlmplfgnhibfcaaDoor
open Go Go.RowKit Go.Proofs.YtlmplfgnhibfcaaDoor.Abs
theorem mixed : Tryd.prog.follows .mixedOrders = true := by kernel_rfl
def r3 : RC := (.seq (.reg [.op (some 1) (.box 23 (.t 0)),
  .op (some 2) (.mv (.v (.lit (.bool false))))])
 (.seq (.reg [.op (some 3) (.mv (.v (.lit (.int .i64 (1048576)))))])
 (.seq (.reg [.op (some 12) (.load 3 true (.t 1)),
  .op (some 13) (.mv (.t 3)),
  .op (some 14) (.call (.v (.lit (.func (.func 5) #[] #[]))) [(.t 12), (.t 13)]),
  .op (some 3) (.mv (.t 14))])
 (.seq (.seq (.reg [.op (some 15) (.mv (.t 3)),
  .op (some 16) (.binI .lss (.t 15) (.v (.lit (.int .i64 (0)))))])
 (.cond (.t 16)
 (.seq (.reg [.op (some 2) (.mv (.v (.lit (.bool true))))])
 .ret)
 .skip))
 (.seq (.reg [.op (some 18) (.load 3 true (.t 1)),
  .op (some 19) (.call (.v (.lit (.func (.func 7) #[] #[]))) [(.t 18)]),
  .op (some 20) (.call (.v (.lit (.func (.func 6) #[] #[]))) [(.t 19)]),
  .op (some 17) (.mv (.t 20)),
  .op (some 21) (.ext (.t 17) 0),
  .op (some 22) (.ext (.t 17) 1),
  .op (some 4) (.mv (.t 21)),
  .op (some 5) (.mv (.t 22))])
 (.seq (.reg [.op (some 24) (.load 3 true (.t 1)),
  .op (some 25) (.call (.v (.lit (.func (.func 7) #[] #[]))) [(.t 24)]),
  .op (some 26) (.call (.v (.lit (.func (.func 8) #[] #[]))) [(.t 25)]),
  .op (some 23) (.mv (.t 26)),
  .op (some 27) (.ext (.t 23) 0),
  .op (some 28) (.ext (.t 23) 1),
  .op (some 6) (.mv (.t 27)),
  .op (some 7) (.mv (.t 28))])
 (.seq (.seq (.reg [.op (some 29) (.mv (.t 6)),
  .op (some 30) (.mv (.t 4)),
  .op (some 31) (.call (.v (.lit (.func (.func 9) #[] #[]))) [(.t 29), (.t 30)]),
  .op (some 32) (.un .not (.t 31)),
  .op (some 33) (.mv (.t 32)),
  .grp 33 false [((some 34), (.mv (.t 7))), ((some 35), (.mv (.t 5))), ((some 36), (.binB true (.t 34) (.t 35)))],
  .op (some 37) (.pick (.t 33) (.v (.lit (.bool true))) (.t 36))])
 (.cond (.t 37)
 (.seq (.reg [.op (some 2) (.mv (.v (.lit (.bool false))))])
 .ret)
 .skip))
 (.seq (.reg [.op (some 8) (.mv (.v (.lit (.int .i64 (1)))))])
 (.seq (.reg [.op (some 38) (.mv (.t 6)),
  .op (some 39) (.mv (.t 8)),
  .op (some 40) (.call (.v (.lit (.func (.func 10) #[] #[]))) [(.t 38), (.t 39)]),
  .op (some 8) (.mv (.t 40))])
 (.seq (.reg [.op (some 9) (.mv (.v (.lit (.int .i64 (1)))))])
 (.seq (.reg [.op (some 41) (.mv (.t 6)),
  .op (some 42) (.mv (.t 9)),
  .op (some 43) (.call (.v (.lit (.func (.func 11) #[] #[]))) [(.t 41), (.t 42)]),
  .op (some 9) (.mv (.t 43))])
 (.seq (.seq (.reg [.op (some 44) (.mv (.t 9)),
  .op (some 45) (.binI .lss (.t 44) (.v (.lit (.int .i64 (0)))))])
 (.cond (.t 45)
 (.seq (.reg [.op (some 2) (.mv (.v (.lit (.bool false))))])
 .ret)
 .skip))
 (.seq (.seq (.reg [.op (some 46) (.mv (.t 9)),
  .op (some 47) (.mv (.t 8)),
  .op (some 48) (.binI .neq (.t 46) (.t 47))])
 (.cond (.t 48)
 (.seq (.reg [.op (some 2) (.mv (.v (.lit (.bool false))))])
 .ret)
 .skip))
 (.seq (.reg [.op (some 50) (.load 3 true (.t 1)),
  .op (some 51) (.call (.v (.lit (.func (.func 7) #[] #[]))) [(.t 50)]),
  .op (some 52) (.call (.v (.lit (.func (.func 8) #[] #[]))) [(.t 51)]),
  .op (some 49) (.mv (.t 52)),
  .op (some 53) (.ext (.t 49) 0),
  .op (some 54) (.ext (.t 49) 1),
  .op (some 10) (.mv (.t 53)),
  .op (some 11) (.mv (.t 54))])
 (.seq (.seq (.reg [.op (some 55) (.mv (.t 10)),
  .op (some 56) (.mv (.t 4)),
  .op (some 57) (.call (.v (.lit (.func (.func 9) #[] #[]))) [(.t 55), (.t 56)]),
  .op (some 58) (.un .not (.t 57)),
  .op (some 59) (.mv (.t 58)),
  .grp 59 false [((some 60), (.mv (.t 11))), ((some 61), (.mv (.t 5))), ((some 62), (.binB true (.t 60) (.t 61)))],
  .op (some 63) (.pick (.t 59) (.v (.lit (.bool true))) (.t 62))])
 (.cond (.t 63)
 (.seq (.reg [.op (some 2) (.mv (.v (.lit (.bool false))))])
 .ret)
 .skip))
 (.seq (.reg [.op (some 9) (.mv (.v (.lit (.int .i64 (1)))))])
 (.seq (.reg [.op (some 64) (.mv (.t 6)),
  .op (some 65) (.mv (.t 9)),
  .op (some 66) (.call (.v (.lit (.func (.func 11) #[] #[]))) [(.t 64), (.t 65)]),
  .op (some 9) (.mv (.t 66))])
 (.seq (.seq (.reg [.op (some 67) (.mv (.t 9)),
  .op (some 68) (.binI .lss (.t 67) (.v (.lit (.int .i64 (0)))))])
 (.cond (.t 68)
 (.seq (.reg [.op (some 2) (.mv (.v (.lit (.bool false))))])
 .ret)
 .skip))
 (.seq (.seq (.reg [.op (some 69) (.mv (.t 9)),
  .op (some 70) (.mv (.t 8)),
  .op (some 71) (.binI .neq (.t 69) (.t 70))])
 (.cond (.t 71)
 (.seq (.reg [.op (some 2) (.mv (.v (.lit (.bool false))))])
 .ret)
 .skip))
 (.seq (.reg [.op (some 2) (.mv (.v (.lit (.bool true))))])
 .ret))))))))))))))))))))
def rs3 : List RR := [.tmp 2]
def cut3 : Nat → Nat := fun id => 0
theorem k3 : (Tryd.f3.body.bind fun c => comp Tryd.prog Tryd.f3.ntmps cut3 c) = some r3 := by kernel_rfl
theorem by3 {W0 : World} {σ : List Blk} {args : List AV} {K : Cont} (hn : args.length ≤ 72) (h : rW Tryd.prog W0 σ.length r3 (initFr args) σ (finP W0 rs3 σ.length K)) : ACall Tryd.prog W0 3 args σ K :=
  ACall.introR mixed Tryd.func3 (by kernel_rfl) k3 (by kernel_rfl) hn h
def r4 : RC := (.seq (.reg [.op (some 3) (.box 23 (.t 0)),
  .op (some 6) (.mv (.v (.lit (.bool false))))])
 (.seq (.reg [.op (some 7) (.mv (.v (.lit (.int .i64 (1048576)))))])
 (.seq (.reg [.op (some 12) (.load 3 true (.t 3)),
  .op (some 13) (.mv (.t 7)),
  .op (some 14) (.call (.v (.lit (.func (.func 5) #[] #[]))) [(.t 12), (.t 13)]),
  .op (some 7) (.mv (.t 14))])
 (.seq (.seq (.reg [.op (some 15) (.mv (.t 7)),
  .op (some 16) (.binI .lss (.t 15) (.v (.lit (.int .i64 (0)))))])
 (.cond (.t 16)
 (.seq (.reg [.op (some 6) (.mv (.v (.lit (.bool true))))])
 .ret)
 .skip))
 (.seq (.reg [.op (some 18) (.load 3 true (.t 3)),
  .op (some 19) (.call (.v (.lit (.func (.func 7) #[] #[]))) [(.t 18)]),
  .op (some 20) (.mv (.t 1)),
  .op (some 21) (.mv (.t 2)),
  .op (some 22) (.call (.v (.lit (.func (.func 12) #[] #[]))) [(.t 19), (.t 20), (.t 21)]),
  .op (some 17) (.mv (.t 22)),
  .op (some 23) (.ext (.t 17) 0),
  .op (some 24) (.ext (.t 17) 1),
  .op (some 8) (.mv (.t 23)),
  .op (some 9) (.mv (.t 24))])
 (.seq (.reg [.op (some 26) (.load 3 true (.t 3)),
  .op (some 27) (.call (.v (.lit (.func (.func 7) #[] #[]))) [(.t 26)]),
  .op (some 28) (.mv (.t 1)),
  .op (some 29) (.mv (.t 2)),
  .op (some 30) (.call (.v (.lit (.func (.func 13) #[] #[]))) [(.t 27), (.t 28), (.t 29)]),
  .op (some 25) (.mv (.t 30)),
  .op (some 31) (.ext (.t 25) 0),
  .op (some 32) (.ext (.t 25) 1),
  .op (some 10) (.mv (.t 31)),
  .op (some 11) (.mv (.t 32))])
 (.seq (.seq (.reg [.op (some 33) (.mv (.t 10)),
  .op (some 34) (.mv (.t 8)),
  .op (some 35) (.binS .neq (.t 33) (.t 34)),
  .op (some 36) (.mv (.t 35)),
  .grp 36 false [((some 37), (.mv (.t 11))), ((some 38), (.mv (.t 9))), ((some 39), (.binB true (.t 37) (.t 38)))],
  .op (some 40) (.pick (.t 36) (.v (.lit (.bool true))) (.t 39))])
 (.cond (.t 40)
 (.seq (.reg [.op (some 6) (.mv (.v (.lit (.bool false))))])
 .ret)
 .skip))
 (.seq (.reg [.op (some 6) (.mv (.v (.lit (.bool true))))])
 .ret))))))))
def rs4 : List RR := [.tmp 6]
def cut4 : Nat → Nat := fun id => 0
theorem k4 : (Tryd.f4.body.bind fun c => comp Tryd.prog Tryd.f4.ntmps cut4 c) = some r4 := by kernel_rfl
theorem by4 {W0 : World} {σ : List Blk} {args : List AV} {K : Cont} (hn : args.length ≤ 41) (h : rW Tryd.prog W0 σ.length r4 (initFr args) σ (finP W0 rs4 σ.length K)) : ACall Tryd.prog W0 4 args σ K :=
  ACall.introR mixed Tryd.func4 (by kernel_rfl) k4 (by kernel_rfl) hn h
def r5 : RC := (.seq (.reg [.op (some 2) (.box 23 (.t 0)),
  .op (some 4) (.mv (.v (.lit (.int .i64 (0)))))])
 (.seq (.reg [.op (some 5) (.mv (.t 1)),
  .op (some 6) (.faddr 0 (.t 2)),
  .op (some 7) (.load 1 false (.t 6)),
  .op (some 8) (.lenS (.t 7)),
  .op (some 9) (.binI .sub (.t 5) (.t 8)),
  .op (some 1) (.mv (.t 9))])
 (.seq (.seq (.reg [.op (some 10) (.mv (.t 1)),
  .op (some 11) (.binI .lss (.t 10) (.v (.lit (.int .i64 (0)))))])
 (.cond (.t 11)
 (.seq (.reg [.op (some 4) (.mv (.v (.lit (.int .i64 (-1)))))])
 .ret)
 .skip))
 (.seq (.reg [.op (some 12) (.mv (.t 1)),
  .op (some 13) (.faddr 1 (.t 2)),
  .op (some 14) (.load 1 false (.t 13)),
  .op (some 15) (.lenS (.t 14)),
  .op (some 16) (.binI .sub (.t 12) (.t 15)),
  .op (some 1) (.mv (.t 16))])
 (.seq (.seq (.reg [.op (some 17) (.mv (.t 1)),
  .op (some 18) (.binI .lss (.t 17) (.v (.lit (.int .i64 (0)))))])
 (.cond (.t 18)
 (.seq (.reg [.op (some 4) (.mv (.v (.lit (.int .i64 (-1)))))])
 .ret)
 .skip))
 (.seq (.reg [.op (some 19) (.mv (.t 1)),
  .op (some 4) (.mv (.t 19))])
 .ret))))))
def rs5 : List RR := [.tmp 4]
def cut5 : Nat → Nat := fun id => 0
theorem k5 : (Tryd.f5.body.bind fun c => comp Tryd.prog Tryd.f5.ntmps cut5 c) = some r5 := by kernel_rfl
theorem by5 {W0 : World} {σ : List Blk} {args : List AV} {K : Cont} (hn : args.length ≤ 20) (h : rW Tryd.prog W0 σ.length r5 (initFr args) σ (finP W0 rs5 σ.length K)) : ACall Tryd.prog W0 5 args σ K :=
  ACall.introR mixed Tryd.func5 (by kernel_rfl) k5 (by kernel_rfl) hn h
def r6 : RC := (.seq (.reg [.op (some 1) (.box 28 (.t 0)),
  .op (some 2) (.mv (.v (.lit (.slice none 0 0)))),
  .op (some 3) (.mv (.v (.lit (.bool false))))])
 (.seq (.seq (.reg [.op (some 6) (.load 3 true (.t 1)),
  .op (some 7) (.call (.v (.lit (.func (.func 14) #[] #[]))) [(.t 6)]),
  .op (some 8) (.un .not (.t 7))])
 (.cond (.t 8)
 (.seq (.reg [.op (some 9) (.bslice 44 2 0 [(.lit (.string ⟨#[]⟩)), (.lit (.string ⟨#[]⟩))] []),
  .op (some 2) (.mv (.t 9)),
  .op (some 3) (.mv (.v (.lit (.bool false))))])
 .ret)
 .skip))
 (.seq (.reg [.op (some 11) (.faddr 0 (.t 1)),
  .op (some 12) (.load 1 false (.t 11)),
  .op (some 13) (.faddr 1 (.t 1)),
  .op (some 14) (.load 1 false (.t 13)),
  .op (some 15) (.binS .add (.t 12) (.t 14)),
  .op (some 16) (.call (.v (.lit (.func (.func 15) #[] #[]))) [(.t 15)]),
  .op (some 10) (.mv (.t 16)),
  .op (some 17) (.ext (.t 10) 0),
  .op (some 18) (.ext (.t 10) 1),
  .op (some 4) (.mv (.t 17)),
  .op (some 5) (.mv (.t 18))])
 (.seq (.reg [.op (some 19) (.mv (.t 4)),
  .op (some 2) (.mv (.t 19)),
  .op (some 3) (.mv (.v (.lit (.bool true))))])
 .ret))))
def rs6 : List RR := [.tmp 2, .tmp 3]
def cut6 : Nat → Nat := fun id => 0
theorem k6 : (Tryd.f6.body.bind fun c => comp Tryd.prog Tryd.f6.ntmps cut6 c) = some r6 := by kernel_rfl
theorem by6 {W0 : World} {σ : List Blk} {args : List AV} {K : Cont} (hn : args.length ≤ 20) (h : rW Tryd.prog W0 σ.length r6 (initFr args) σ (finP W0 rs6 σ.length K)) : ACall Tryd.prog W0 6 args σ K :=
  ACall.introR mixed Tryd.func6 (by kernel_rfl) k6 (by kernel_rfl) hn h
def r7 : RC := (.seq (.reg [.op (some 1) (.box 23 (.t 0)),
  .op (some 2) (.alloc 28 [(.lit (.string ⟨#[]⟩)), (.lit (.string ⟨#[]⟩)), (.lit (.int .i64 (0)))])])
 (.seq (.reg [.op (some 3) (.alloc 28 [(.lit (.string ⟨#[]⟩)), (.lit (.string ⟨#[]⟩)), (.lit (.int .i64 (0)))])])
 (.seq (.reg [.op (some 4) (.faddr 0 (.t 1)),
  .op (some 5) (.load 1 false (.t 4)),
  .op (some 6) (.faddr 0 (.t 3)),
  .op none (.store 1 (.t 6) (.t 5))])
 (.seq (.reg [.op (some 7) (.faddr 1 (.t 1)),
  .op (some 8) (.load 1 false (.t 7)),
  .op (some 9) (.faddr 1 (.t 3)),
  .op none (.store 1 (.t 9) (.t 8))])
 (.seq (.reg [.op (some 10) (.faddr 2 (.t 1)),
  .op (some 11) (.load 1 false (.t 10)),
  .op (some 12) (.faddr 2 (.t 3)),
  .op none (.store 1 (.t 12) (.t 11))])
 (.seq (.reg [.op (some 13) (.load 3 true (.t 3)),
  .op none (.store 3 (.t 2) (.t 13))])
 .ret))))))
def rs7 : List RR := [.cell 2 3 true]
def cut7 : Nat → Nat := fun id => 0
theorem k7 : (Tryd.f7.body.bind fun c => comp Tryd.prog Tryd.f7.ntmps cut7 c) = some r7 := by kernel_rfl
theorem by7 {W0 : World} {σ : List Blk} {args : List AV} {K : Cont} (hn : args.length ≤ 14) (h : rW Tryd.prog W0 σ.length r7 (initFr args) σ (finP W0 rs7 σ.length K)) : ACall Tryd.prog W0 7 args σ K :=
  ACall.introR mixed Tryd.func7 (by kernel_rfl) k7 (by kernel_rfl) hn h
def r8 : RC := (.seq (.reg [.op (some 1) (.box 28 (.t 0)),
  .op (some 2) (.mv (.v (.lit (.slice none 0 0)))),
  .op (some 3) (.mv (.v (.lit (.bool false))))])
 (.seq (.seq (.reg [.op (some 6) (.load 3 true (.t 1)),
  .op (some 7) (.call (.v (.lit (.func (.func 16) #[] #[]))) [(.t 6)]),
  .op (some 8) (.un .not (.t 7))])
 (.cond (.t 8)
 (.seq (.reg [.op (some 2) (.mv (.v (.lit (.slice none 0 0)))),
  .op (some 3) (.mv (.v (.lit (.bool false))))])
 .ret)
 .skip))
 (.seq (.reg [.op (some 10) (.faddr 0 (.t 1)),
  .op (some 11) (.load 1 false (.t 10)),
  .op (some 12) (.faddr 1 (.t 1)),
  .op (some 13) (.load 1 false (.t 12)),
  .op (some 14) (.binS .add (.t 11) (.t 13)),
  .op (some 15) (.call (.v (.lit (.func (.func 17) #[] #[]))) [(.t 14)]),
  .op (some 9) (.mv (.t 15)),
  .op (some 16) (.ext (.t 9) 0),
  .op (some 17) (.ext (.t 9) 1),
  .op (some 4) (.mv (.t 16)),
  .op (some 5) (.mv (.t 17))])
 (.seq (.reg [.op (some 18) (.mv (.t 4)),
  .op (some 2) (.mv (.t 18)),
  .op (some 3) (.mv (.v (.lit (.bool true))))])
 .ret))))
def rs8 : List RR := [.tmp 2, .tmp 3]
def cut8 : Nat → Nat := fun id => 0
theorem k8 : (Tryd.f8.body.bind fun c => comp Tryd.prog Tryd.f8.ntmps cut8 c) = some r8 := by kernel_rfl
theorem by8 {W0 : World} {σ : List Blk} {args : List AV} {K : Cont} (hn : args.length ≤ 19) (h : rW Tryd.prog W0 σ.length r8 (initFr args) σ (finP W0 rs8 σ.length K)) : ACall Tryd.prog W0 8 args σ K :=
  ACall.introR mixed Tryd.func8 (by kernel_rfl) k8 (by kernel_rfl) hn h
def r9 : RC := (.seq (.reg [.op (some 4) (.mv (.v (.lit (.bool false))))])
 (.seq (.seq (.reg [.op (some 6) (.mv (.t 0)),
  .op (some 7) (.lenL (.t 6)),
  .op (some 8) (.mv (.t 1)),
  .op (some 9) (.lenL (.t 8)),
  .op (some 10) (.binI .neq (.t 7) (.t 9))])
 (.cond (.t 10)
 (.seq (.reg [.op (some 4) (.mv (.v (.lit (.bool false))))])
 .ret)
 .skip))
 (.seq (.seq (.reg [.op (some 5) (.mv (.v (.lit (.int .i64 (0)))))])
 (.block 0 (.loop (.seq (.seq (.reg [.op (some 11) (.mv (.t 5)),
  .op (some 12) (.mv (.t 0)),
  .op (some 13) (.lenL (.t 12)),
  .op (some 14) (.binI .lss (.t 11) (.t 13))])
 (.cond (.t 14)
 .skip
 (.exit 0)))
 (.seq (.block 1 (.seq (.draw [((some 17), (.mv (.t 0))), ((some 18), (.mv (.t 5))), ((some 19), (.iaddrS 2 (.t 17) (.t 18))), ((some 20), (.load 2 true (.t 19))), ((some 21), (.mv (.t 1))), ((some 22), (.mv (.t 5))), ((some 23), (.iaddrS 2 (.t 21) (.t 22))), ((some 24), (.load 2 true (.t 23))), ((some 25), (.call (.v (.lit (.func (.func 18) #[] #[]))) [(.t 20), (.t 24)])), ((some 26), (.un .not (.t 25)))] [])
 (.cond (.t 26)
 (.seq (.reg [.op (some 4) (.mv (.v (.lit (.bool false))))])
 .ret)
 .skip)))
 (.reg [.op (some 15) (.mv (.t 5)),
  .op (some 16) (.binI .add (.t 15) (.v (.lit (.int .i64 (1))))),
  .op (some 5) (.mv (.t 16))]))))))
 (.seq (.reg [.op (some 4) (.mv (.v (.lit (.bool true))))])
 .ret))))
def rs9 : List RR := [.tmp 4]
def cut9 : Nat → Nat := fun id => if id = 6 then 21 else 0
theorem k9 : (Tryd.f9.body.bind fun c => comp Tryd.prog Tryd.f9.ntmps cut9 c) = some r9 := by kernel_rfl
theorem by9 {W0 : World} {σ : List Blk} {args : List AV} {K : Cont} (hn : args.length ≤ 27) (h : rW Tryd.prog W0 σ.length r9 (initFr args) σ (finP W0 rs9 σ.length K)) : ACall Tryd.prog W0 9 args σ K :=
  ACall.introR mixed Tryd.func9 (by kernel_rfl) k9 (by kernel_rfl) hn h
def r10 : RC := (.seq (.reg [.op (some 4) (.mv (.v (.lit (.int .i64 (0)))))])
 (.seq (.seq (.reg [.op (some 5) (.mv (.v (.lit (.int .i64 (0)))))])
 (.block 0 (.loop (.seq (.seq (.reg [.op (some 6) (.mv (.t 5)),
  .op (some 7) (.mv (.t 0)),
  .op (some 8) (.lenL (.t 7)),
  .op (some 9) (.binI .lss (.t 6) (.t 8))])
 (.cond (.t 9)
 .skip
 (.exit 0)))
 (.seq (.block 1 (.seq (.reg [.op (some 12) (.mv (.t 0)),
  .op (some 13) (.mv (.t 5)),
  .op (some 14) (.mv (.t 1)),
  .op (some 15) (.call (.v (.lit (.func (.func 19) #[] #[]))) [(.t 14)]),
  .op (some 16) (.iaddrS 2 (.t 12) (.t 13)),
  .op (some 17) (.faddr 0 (.t 16)),
  .op none (.store 1 (.t 17) (.t 15))])
 (.seq (.reg [.op (some 18) (.mv (.t 1)),
  .op (some 19) (.binI .add (.t 18) (.v (.lit (.int .i64 (1))))),
  .op (some 1) (.mv (.t 19))])
 (.seq (.reg [.op (some 20) (.mv (.t 0)),
  .op (some 21) (.mv (.t 5)),
  .op (some 22) (.mv (.t 1)),
  .op (some 23) (.call (.v (.lit (.func (.func 19) #[] #[]))) [(.t 22)]),
  .op (some 24) (.iaddrS 2 (.t 20) (.t 21)),
  .op (some 25) (.faddr 1 (.t 24)),
  .op none (.store 1 (.t 25) (.t 23))])
 (.reg [.op (some 26) (.mv (.t 1)),
  .op (some 27) (.binI .add (.t 26) (.v (.lit (.int .i64 (1))))),
  .op (some 1) (.mv (.t 27))])))))
 (.reg [.op (some 10) (.mv (.t 5)),
  .op (some 11) (.binI .add (.t 10) (.v (.lit (.int .i64 (1))))),
  .op (some 5) (.mv (.t 11))]))))))
 (.seq (.reg [.op (some 28) (.mv (.t 1)),
  .op (some 4) (.mv (.t 28))])
 .ret)))
def rs10 : List RR := [.tmp 4]
def cut10 : Nat → Nat := fun id => 0
theorem k10 : (Tryd.f10.body.bind fun c => comp Tryd.prog Tryd.f10.ntmps cut10 c) = some r10 := by kernel_rfl
theorem by10 {W0 : World} {σ : List Blk} {args : List AV} {K : Cont} (hn : args.length ≤ 29) (h : rW Tryd.prog W0 σ.length r10 (initFr args) σ (finP W0 rs10 σ.length K)) : ACall Tryd.prog W0 10 args σ K :=
  ACall.introR mixed Tryd.func10 (by kernel_rfl) k10 (by kernel_rfl) hn h
def r11 : RC := (.seq (.reg [.op (some 4) (.mv (.v (.lit (.int .i64 (0)))))])
 (.seq (.seq (.reg [.op (some 5) (.mv (.v (.lit (.int .i64 (0)))))])
 (.block 0 (.loop (.seq (.seq (.reg [.op (some 6) (.mv (.t 5)),
  .op (some 7) (.mv (.t 0)),
  .op (some 8) (.lenL (.t 7)),
  .op (some 9) (.binI .lss (.t 6) (.t 8))])
 (.cond (.t 9)
 .skip
 (.exit 0)))
 (.seq (.block 1 (.seq (.seq (.draw [((some 12), (.mv (.t 0))), ((some 13), (.mv (.t 5))), ((some 14), (.iaddrS 2 (.t 12) (.t 13))), ((some 15), (.faddr 0 (.t 14))), ((some 16), (.load 1 false (.t 15))), ((some 17), (.mv (.t 1))), ((some 18), (.call (.v (.lit (.func (.func 19) #[] #[]))) [(.t 17)])), ((some 19), (.binS .neq (.t 16) (.t 18)))] [])
 (.cond (.t 19)
 (.seq (.reg [.op (some 4) (.mv (.v (.lit (.int .i64 (-1)))))])
 .ret)
 .skip))
 (.seq (.reg [.op (some 20) (.mv (.t 1)),
  .op (some 21) (.binI .add (.t 20) (.v (.lit (.int .i64 (1))))),
  .op (some 1) (.mv (.t 21))])
 (.seq (.seq (.draw [((some 22), (.mv (.t 0))), ((some 23), (.mv (.t 5))), ((some 24), (.iaddrS 2 (.t 22) (.t 23))), ((some 25), (.faddr 1 (.t 24))), ((some 26), (.load 1 false (.t 25))), ((some 27), (.mv (.t 1))), ((some 28), (.call (.v (.lit (.func (.func 19) #[] #[]))) [(.t 27)])), ((some 29), (.binS .neq (.t 26) (.t 28)))] [])
 (.cond (.t 29)
 (.seq (.reg [.op (some 4) (.mv (.v (.lit (.int .i64 (-1)))))])
 .ret)
 .skip))
 (.reg [.op (some 30) (.mv (.t 1)),
  .op (some 31) (.binI .add (.t 30) (.v (.lit (.int .i64 (1))))),
  .op (some 1) (.mv (.t 31))])))))
 (.reg [.op (some 10) (.mv (.t 5)),
  .op (some 11) (.binI .add (.t 10) (.v (.lit (.int .i64 (1))))),
  .op (some 5) (.mv (.t 11))]))))))
 (.seq (.reg [.op (some 32) (.mv (.t 1)),
  .op (some 4) (.mv (.t 32))])
 .ret)))
def rs11 : List RR := [.tmp 4]
def cut11 : Nat → Nat := fun id => if id = 4 then 17 else if id = 7 then 17 else 0
theorem k11 : (Tryd.f11.body.bind fun c => comp Tryd.prog Tryd.f11.ntmps cut11 c) = some r11 := by kernel_rfl
theorem by11 {W0 : World} {σ : List Blk} {args : List AV} {K : Cont} (hn : args.length ≤ 33) (h : rW Tryd.prog W0 σ.length r11 (initFr args) σ (finP W0 rs11 σ.length K)) : ACall Tryd.prog W0 11 args σ K :=
  ACall.introR mixed Tryd.func11 (by kernel_rfl) k11 (by kernel_rfl) hn h
def r14 : RC := (.seq (.reg [.op (some 1) (.box 28 (.t 0)),
  .op (some 2) (.mv (.v (.lit (.bool false))))])
 (.seq (.seq (.reg [.op (some 7) (.faddr 0 (.t 1)),
  .op (some 8) (.load 1 false (.t 7)),
  .op (some 9) (.lenS (.t 8)),
  .op (some 10) (.faddr 1 (.t 1)),
  .op (some 11) (.load 1 false (.t 10)),
  .op (some 12) (.lenS (.t 11)),
  .op (some 13) (.binI .add (.t 9) (.t 12)),
  .op (some 14) (.binI .gtr (.t 13) (.v (.lit (.int .i64 (30000)))))])
 (.cond (.t 14)
 (.seq (.reg [.op (some 2) (.mv (.v (.lit (.bool false))))])
 .ret)
 .skip))
 (.seq (.reg [.op (some 16) (.faddr 0 (.t 1)),
  .op (some 17) (.load 1 false (.t 16)),
  .op (some 18) (.faddr 1 (.t 1)),
  .op (some 19) (.load 1 false (.t 18)),
  .op (some 20) (.binS .add (.t 17) (.t 19)),
  .op (some 21) (.call (.v (.lit (.func (.func 15) #[] #[]))) [(.t 20)]),
  .op (some 15) (.mv (.t 21)),
  .op (some 22) (.ext (.t 15) 0),
  .op (some 23) (.ext (.t 15) 1),
  .op (some 3) (.mv (.t 22)),
  .op (some 4) (.mv (.t 23))])
 (.seq (.reg [.op (some 25) (.faddr 0 (.t 1)),
  .op (some 26) (.load 1 false (.t 25)),
  .op (some 27) (.call (.v (.lit (.func (.func 15) #[] #[]))) [(.t 26)]),
  .op (some 24) (.mv (.t 27)),
  .op (some 28) (.ext (.t 24) 0),
  .op (some 29) (.ext (.t 24) 1),
  .op (some 5) (.mv (.t 28)),
  .op (some 6) (.mv (.t 29))])
 (.seq (.reg [.op (some 30) (.mv (.t 4)),
  .op (some 31) (.faddr 0 (.t 1)),
  .op (some 32) (.load 1 false (.t 31)),
  .op (some 33) (.lenS (.t 32)),
  .op (some 34) (.faddr 1 (.t 1)),
  .op (some 35) (.load 1 false (.t 34)),
  .op (some 36) (.lenS (.t 35)),
  .op (some 37) (.binI .add (.t 33) (.t 36)),
  .op (some 38) (.binI .eql (.t 30) (.t 37)),
  .op (some 39) (.mv (.t 38)),
  .grp 39 true [((some 40), (.mv (.t 6))), ((some 41), (.faddr 0 (.t 1))), ((some 42), (.load 1 false (.t 41))), ((some 43), (.lenS (.t 42))), ((some 44), (.binI .eql (.t 40) (.t 43)))],
  .op (some 45) (.pick (.t 39) (.t 44) (.v (.lit (.bool false)))),
  .op (some 46) (.mv (.t 45)),
  .grp 46 true [((some 47), (.mv (.t 3))), ((some 48), (.lenL (.t 47))), ((some 49), (.faddr 2 (.t 1))), ((some 50), (.load 1 false (.t 49))), ((some 51), (.binI .eql (.t 48) (.t 50)))],
  .op (some 52) (.pick (.t 46) (.t 51) (.v (.lit (.bool false)))),
  .op (some 2) (.mv (.t 52))])
 .ret)))))
def rs14 : List RR := [.tmp 2]
def cut14 : Nat → Nat := fun id => 0
theorem k14 : (Tryd.f14.body.bind fun c => comp Tryd.prog Tryd.f14.ntmps cut14 c) = some r14 := by kernel_rfl
theorem by14 {W0 : World} {σ : List Blk} {args : List AV} {K : Cont} (hn : args.length ≤ 53) (h : rW Tryd.prog W0 σ.length r14 (initFr args) σ (finP W0 rs14 σ.length K)) : ACall Tryd.prog W0 14 args σ K :=
  ACall.introR mixed Tryd.func14 (by kernel_rfl) k14 (by kernel_rfl) hn h
def r15 : RC := (.seq (.reg [.op (some 2) (.mv (.v (.lit (.slice none 0 0)))),
  .op (some 3) (.mv (.v (.lit (.int .i64 (0)))))])
 (.seq (.reg [.op (some 9) (.bslice 44 2 0 [(.lit (.string ⟨#[]⟩)), (.lit (.string ⟨#[]⟩))] []),
  .op (some 4) (.mv (.t 9))])
 (.seq (.reg [.op (some 5) (.mv (.v (.lit (.int .i64 (0)))))])
 (.seq (.block 0 (.loop (.seq (.seq (.reg [.op (some 10) (.mv (.t 5)),
  .op (some 11) (.mv (.t 0)),
  .op (some 12) (.lenS (.t 11)),
  .op (some 13) (.binI .lss (.t 10) (.t 12)),
  .op (some 14) (.mv (.t 13)),
  .grp 14 true [((some 15), (.mv (.t 4))), ((some 16), (.lenL (.t 15))), ((some 17), (.binI .lss (.t 16) (.v (.lit (.int .i64 (60))))))],
  .op (some 18) (.pick (.t 14) (.t 17) (.v (.lit (.bool false))))])
 (.cond (.t 18)
 .skip
 (.exit 0)))
 (.block 1 (.seq (.reg [.op (some 19) (.mv (.t 0)),
  .op (some 20) (.mv (.t 5)),
  .op (some 21) (.sliceS (.t 19) (some (.t 20)) none),
  .op (some 22) (.call (.v (.lit (.func (.func 21) #[] #[]))) [(.t 21), (.v (.lit (.int .u8 (10))))]),
  .op (some 6) (.mv (.t 22))])
 (.seq (.reg [.op (some 24) (.mv (.t 6)),
  .op (some 25) (.iaddrS 1 (.t 24) (.v (.lit (.int .i64 (0))))),
  .op (some 26) (.load 1 false (.t 25)),
  .op (some 27) (.mv (.t 4)),
  .op (some 28) (.lenL (.t 27)),
  .op (some 29) (.call (.v (.lit (.func (.func 22) #[] #[]))) [(.t 26), (.t 28)]),
  .op (some 23) (.mv (.t 29)),
  .op (some 30) (.ext (.t 23) 0),
  .op (some 31) (.ext (.t 23) 1),
  .op (some 7) (.alloc 44 [(.lit (.string ⟨#[]⟩)), (.lit (.string ⟨#[]⟩))]),
  .op none (.store 2 (.t 7) (.t 30)),
  .op (some 8) (.mv (.t 31))])
 (.seq (.seq (.reg [.op (some 32) (.mv (.t 6)),
  .op (some 33) (.lenL (.t 32)),
  .op (some 34) (.binI .lss (.t 33) (.v (.lit (.int .i64 (2))))),
  .op (some 35) (.mv (.t 34)),
  .grp 35 false [((some 36), (.mv (.t 8))), ((some 37), (.un .not (.t 36)))],
  .op (some 38) (.pick (.t 35) (.v (.lit (.bool true))) (.t 37))])
 (.cond (.t 38)
 (.exit 0)
 .skip))
 (.seq (.reg [.op (some 39) (.mv (.t 4)),
  .op (some 40) (.load 2 true (.t 7)),
  .app (some 42) 41 44 2 32 (.t 39) 1 [(.lit (.string ⟨#[]⟩)), (.lit (.string ⟨#[]⟩))] [(0, (.t 40))],
  .op (some 4) (.mv (.t 42))])
 (.reg [.op (some 43) (.mv (.t 5)),
  .op (some 44) (.mv (.t 6)),
  .op (some 45) (.iaddrS 1 (.t 44) (.v (.lit (.int .i64 (0))))),
  .op (some 46) (.load 1 false (.t 45)),
  .op (some 47) (.lenS (.t 46)),
  .op (some 48) (.binI .add (.t 43) (.t 47)),
  .op (some 49) (.binI .add (.t 48) (.v (.lit (.int .i64 (1))))),
  .op (some 5) (.mv (.t 49))])))))))))
 (.seq (.reg [.op (some 50) (.mv (.t 4)),
  .op (some 51) (.mv (.t 5)),
  .op (some 2) (.mv (.t 50)),
  .op (some 3) (.mv (.t 51))])
 .ret)))))
def rs15 : List RR := [.tmp 2, .tmp 3]
def cut15 : Nat → Nat := fun id => 0
theorem k15 : (Tryd.f15.body.bind fun c => comp Tryd.prog Tryd.f15.ntmps cut15 c) = some r15 := by kernel_rfl
theorem by15 {W0 : World} {σ : List Blk} {args : List AV} {K : Cont} (hn : args.length ≤ 52) (h : rW Tryd.prog W0 σ.length r15 (initFr args) σ (finP W0 rs15 σ.length K)) : ACall Tryd.prog W0 15 args σ K :=
  ACall.introR mixed Tryd.func15 (by kernel_rfl) k15 (by kernel_rfl) hn h
def r16 : RC := (.seq (.reg [.op (some 1) (.box 28 (.t 0)),
  .op (some 2) (.mv (.v (.lit (.bool false))))])
 (.seq (.reg [.op (some 6) (.faddr 0 (.t 1)),
  .op (some 7) (.load 1 false (.t 6)),
  .op (some 8) (.lenS (.t 7)),
  .op (some 9) (.faddr 1 (.t 1)),
  .op (some 10) (.load 1 false (.t 9)),
  .op (some 11) (.lenS (.t 10)),
  .op (some 12) (.binI .add (.t 8) (.t 11)),
  .op (some 3) (.mv (.t 12))])
 (.seq (.seq (.reg [.op (some 13) (.mv (.t 3)),
  .op (some 14) (.binI .gtr (.t 13) (.v (.lit (.int .i64 (30000)))))])
 (.cond (.t 14)
 (.seq (.reg [.op (some 2) (.mv (.v (.lit (.bool false))))])
 .ret)
 .skip))
 (.seq (.reg [.op (some 16) (.faddr 0 (.t 1)),
  .op (some 17) (.load 1 false (.t 16)),
  .op (some 18) (.faddr 1 (.t 1)),
  .op (some 19) (.load 1 false (.t 18)),
  .op (some 20) (.binS .add (.t 17) (.t 19)),
  .op (some 21) (.call (.v (.lit (.func (.func 17) #[] #[]))) [(.t 20)]),
  .op (some 15) (.mv (.t 21)),
  .op (some 22) (.ext (.t 15) 0),
  .op (some 23) (.ext (.t 15) 1),
  .op (some 4) (.mv (.t 22)),
  .op (some 5) (.mv (.t 23))])
 (.seq (.reg [.op (some 24) (.mv (.t 5)),
  .op (some 25) (.mv (.t 4)),
  .op (some 26) (.lenL (.t 25)),
  .op (some 27) (.iaddrS 1 (.t 24) (.t 26)),
  .op (some 28) (.load 1 false (.t 27)),
  .op (some 29) (.mv (.t 3)),
  .op (some 30) (.binI .eql (.t 28) (.t 29)),
  .op (some 31) (.mv (.t 30)),
  .grp 31 true [((some 32), (.mv (.t 5))), ((some 33), (.faddr 0 (.t 1))), ((some 34), (.load 1 false (.t 33))), ((some 35), (.lenS (.t 34))), ((some 36), (.call (.v (.lit (.func (.func 23) #[] #[]))) [(.t 32), (.t 35)]))],
  .op (some 37) (.pick (.t 31) (.t 36) (.v (.lit (.bool false)))),
  .op (some 38) (.mv (.t 37)),
  .grp 38 true [((some 39), (.faddr 2 (.t 1))), ((some 40), (.load 1 false (.t 39))), ((some 41), (.mv (.t 4))), ((some 42), (.lenL (.t 41))), ((some 43), (.binI .eql (.t 40) (.t 42)))],
  .op (some 44) (.pick (.t 38) (.t 43) (.v (.lit (.bool false)))),
  .op (some 2) (.mv (.t 44))])
 .ret)))))
def rs16 : List RR := [.tmp 2]
def cut16 : Nat → Nat := fun id => 0
theorem k16 : (Tryd.f16.body.bind fun c => comp Tryd.prog Tryd.f16.ntmps cut16 c) = some r16 := by kernel_rfl
theorem by16 {W0 : World} {σ : List Blk} {args : List AV} {K : Cont} (hn : args.length ≤ 45) (h : rW Tryd.prog W0 σ.length r16 (initFr args) σ (finP W0 rs16 σ.length K)) : ACall Tryd.prog W0 16 args σ K :=
  ACall.introR mixed Tryd.func16 (by kernel_rfl) k16 (by kernel_rfl) hn h
def r17 : RC := (.seq (.reg [.op (some 2) (.mv (.v (.lit (.slice none 0 0)))),
  .op (some 3) (.mv (.v (.lit (.slice none 0 0))))])
 (.seq (.reg [.op (some 10) (.bslice 44 2 0 [(.lit (.string ⟨#[]⟩)), (.lit (.string ⟨#[]⟩))] []),
  .op (some 11) (.bslice 3 1 1 [(.lit (.int .i64 (0)))] [(0, (.v (.lit (.int .i64 (0)))))]),
  .op (some 4) (.mv (.t 10)),
  .op (some 5) (.mv (.t 11)),
  .op (some 6) (.mv (.v (.lit (.int .i64 (0)))))])
 (.block 0 (.loop (.block 1 (.seq (.reg [.op (some 13) (.mv (.t 0)),
  .op (some 14) (.mv (.t 6)),
  .op (some 15) (.sliceS (.t 13) (some (.t 14)) none),
  .op (some 16) (.mv (.t 4)),
  .op (some 17) (.lenL (.t 16)),
  .op (some 18) (.call (.v (.lit (.func (.func 24) #[] #[]))) [(.t 15), (.t 17)]),
  .op (some 12) (.mv (.t 18)),
  .op (some 19) (.ext (.t 12) 0),
  .op (some 20) (.ext (.t 12) 1),
  .op (some 21) (.ext (.t 12) 2),
  .op (some 7) (.alloc 44 [(.lit (.string ⟨#[]⟩)), (.lit (.string ⟨#[]⟩))]),
  .op none (.store 2 (.t 7) (.t 19)),
  .op (some 8) (.mv (.t 20)),
  .op (some 9) (.mv (.t 21))])
 (.seq (.seq (.reg [.op (some 22) (.mv (.t 9)),
  .op (some 23) (.un .not (.t 22))])
 (.cond (.t 23)
 (.seq (.reg [.op (some 24) (.mv (.t 4)),
  .op (some 25) (.mv (.t 5)),
  .op (some 2) (.mv (.t 24)),
  .op (some 3) (.mv (.t 25))])
 .ret)
 .skip))
 (.seq (.reg [.op (some 26) (.mv (.t 6)),
  .op (some 27) (.mv (.t 8)),
  .op (some 28) (.lenS (.t 27)),
  .op (some 29) (.binI .add (.t 26) (.t 28)),
  .op (some 6) (.mv (.t 29))])
 (.reg [.op (some 30) (.mv (.t 4)),
  .op (some 31) (.load 2 true (.t 7)),
  .app (some 33) 32 44 2 32 (.t 30) 1 [(.lit (.string ⟨#[]⟩)), (.lit (.string ⟨#[]⟩))] [(0, (.t 31))],
  .op (some 34) (.mv (.t 5)),
  .op (some 35) (.mv (.t 6)),
  .app (some 37) 36 3 1 8 (.t 34) 1 [(.lit (.int .i64 (0)))] [(0, (.t 35))],
  .op (some 4) (.mv (.t 33)),
  .op (some 5) (.mv (.t 37))])))))))))
def rs17 : List RR := [.tmp 2, .tmp 3]
def cut17 : Nat → Nat := fun id => 0
theorem k17 : (Tryd.f17.body.bind fun c => comp Tryd.prog Tryd.f17.ntmps cut17 c) = some r17 := by kernel_rfl
theorem by17 {W0 : World} {σ : List Blk} {args : List AV} {K : Cont} (hn : args.length ≤ 38) (h : rW Tryd.prog W0 σ.length r17 (initFr args) σ (finP W0 rs17 σ.length K)) : ACall Tryd.prog W0 17 args σ K :=
  ACall.introR mixed Tryd.func17 (by kernel_rfl) k17 (by kernel_rfl) hn h
def r18 : RC := (.seq (.reg [.op (some 2) (.box 44 (.t 0)),
  .op (some 3) (.box 44 (.t 1)),
  .op (some 4) (.mv (.v (.lit (.bool false))))])
 (.seq (.seq (.reg [.op (some 5) (.faddr 0 (.t 2)),
  .op (some 6) (.load 1 false (.t 5)),
  .op (some 7) (.faddr 0 (.t 3)),
  .op (some 8) (.load 1 false (.t 7)),
  .op (some 9) (.binS .neq (.t 6) (.t 8))])
 (.cond (.t 9)
 (.seq (.reg [.op (some 4) (.mv (.v (.lit (.bool false))))])
 .ret)
 .skip))
 (.seq (.seq (.reg [.op (some 10) (.faddr 1 (.t 2)),
  .op (some 11) (.load 1 false (.t 10)),
  .op (some 12) (.faddr 1 (.t 3)),
  .op (some 13) (.load 1 false (.t 12)),
  .op (some 14) (.binS .neq (.t 11) (.t 13))])
 (.cond (.t 14)
 (.seq (.reg [.op (some 4) (.mv (.v (.lit (.bool false))))])
 .ret)
 .skip))
 (.seq (.reg [.op (some 4) (.mv (.v (.lit (.bool true))))])
 .ret))))
def rs18 : List RR := [.tmp 4]
def cut18 : Nat → Nat := fun id => 0
theorem k18 : (Tryd.f18.body.bind fun c => comp Tryd.prog Tryd.f18.ntmps cut18 c) = some r18 := by kernel_rfl
theorem by18 {W0 : World} {σ : List Blk} {args : List AV} {K : Cont} (hn : args.length ≤ 15) (h : rW Tryd.prog W0 σ.length r18 (initFr args) σ (finP W0 rs18 σ.length K)) : ACall Tryd.prog W0 18 args σ K :=
  ACall.introR mixed Tryd.func18 (by kernel_rfl) k18 (by kernel_rfl) hn h
def r19 : RC := (.seq (.reg [.op (some 2) (.mv (.v (.lit (.string ⟨#[]⟩))))])
 (.seq (.seq (.reg [.op (some 4) (.mv (.t 0)),
  .op (some 5) (.binI .leq (.t 4) (.v (.lit (.int .i64 (0)))))])
 (.cond (.t 5)
 (.seq (.reg [.op (some 2) (.mv (.v (.lit (.string ⟨#[109, 48]⟩))))])
 .ret)
 .skip))
 (.seq (.reg [.op (some 3) (.mv (.v (.lit (.string ⟨#[]⟩))))])
 (.seq (.block 0 (.loop (.seq (.seq (.reg [.op (some 6) (.mv (.t 0)),
  .op (some 7) (.binI .gtr (.t 6) (.v (.lit (.int .i64 (0)))))])
 (.cond (.t 7)
 .skip
 (.exit 0)))
 (.block 1 (.seq (.reg [.op (some 8) (.mv (.t 0)),
  .op (some 9) (.binI .rem (.t 8) (.v (.lit (.int .i64 (10))))),
  .op (some 10) (.binI .add (.v (.lit (.int .i64 (48)))) (.t 9)),
  .op (some 11) (.conv .u8 (.t 10)),
  .op (some 12) (.bslice 5 1 1 [(.lit (.int .u8 (0)))] [(0, (.t 11))]),
  .op (some 13) (.strL (.t 12)),
  .op (some 14) (.mv (.t 3)),
  .op (some 15) (.binS .add (.t 13) (.t 14)),
  .op (some 3) (.mv (.t 15))])
 (.reg [.op (some 16) (.mv (.t 0)),
  .op (some 17) (.binI .quo (.t 16) (.v (.lit (.int .i64 (10))))),
  .op (some 0) (.mv (.t 17))]))))))
 (.seq (.reg [.op (some 18) (.mv (.t 3)),
  .op (some 19) (.binS .add (.v (.lit (.string ⟨#[109]⟩))) (.t 18)),
  .op (some 2) (.mv (.t 19))])
 .ret)))))
def rs19 : List RR := [.tmp 2]
def cut19 : Nat → Nat := fun id => 0
theorem k19 : (Tryd.f19.body.bind fun c => comp Tryd.prog Tryd.f19.ntmps cut19 c) = some r19 := by kernel_rfl
theorem by19 {W0 : World} {σ : List Blk} {args : List AV} {K : Cont} (hn : args.length ≤ 20) (h : rW Tryd.prog W0 σ.length r19 (initFr args) σ (finP W0 rs19 σ.length K)) : ACall Tryd.prog W0 19 args σ K :=
  ACall.introR mixed Tryd.func19 (by kernel_rfl) k19 (by kernel_rfl) hn h
def r20 : RC := (.seq (.reg [.op (some 6) (.mv (.v (.lit (.bool false))))])
 (.seq (.reg [.op (some 7) (.mv (.t 0)),
  .op (some 8) (.mv (.t 1)),
  .op (some 9) (.binI .geq (.t 7) (.t 8)),
  .op (some 10) (.mv (.t 9)),
  .grp 10 true [((some 11), (.mv (.t 0))), ((some 12), (.mv (.t 2))), ((some 13), (.binI .leq (.t 11) (.t 12)))],
  .op (some 14) (.pick (.t 10) (.t 13) (.v (.lit (.bool false)))),
  .op (some 6) (.mv (.t 14))])
 .ret))
def rs20 : List RR := [.tmp 6]
def cut20 : Nat → Nat := fun id => 0
theorem k20 : (Tryd.f20.body.bind fun c => comp Tryd.prog Tryd.f20.ntmps cut20 c) = some r20 := by kernel_rfl
theorem by20 {W0 : World} {σ : List Blk} {args : List AV} {K : Cont} (hn : args.length ≤ 15) (h : rW Tryd.prog W0 σ.length r20 (initFr args) σ (finP W0 rs20 σ.length K)) : ACall Tryd.prog W0 20 args σ K :=
  ACall.introR mixed Tryd.func20 (by kernel_rfl) k20 (by kernel_rfl) hn h
def r21 : RC := (.seq (.reg [.op (some 4) (.mv (.v (.lit (.slice none 0 0))))])
 (.seq (.reg [.op (some 8) (.bslice 9 1 0 [(.lit (.string ⟨#[]⟩))] []),
  .op (some 5) (.mv (.t 8))])
 (.seq (.reg [.op (some 6) (.mv (.v (.lit (.int .i64 (0)))))])
 (.seq (.seq (.reg [.op (some 7) (.mv (.v (.lit (.int .i64 (0)))))])
 (.block 0 (.loop (.seq (.seq (.reg [.op (some 9) (.mv (.t 7)),
  .op (some 10) (.mv (.t 0)),
  .op (some 11) (.lenS (.t 10)),
  .op (some 12) (.binI .lss (.t 9) (.t 11))])
 (.cond (.t 12)
 .skip
 (.exit 0)))
 (.seq (.block 1 (.seq (.reg [.op (some 15) (.mv (.t 0)),
  .op (some 16) (.mv (.t 7)),
  .op (some 17) (.idxS (.t 15) (.t 16)),
  .op (some 18) (.mv (.t 1)),
  .op (some 19) (.binI .eql (.t 17) (.t 18))])
 (.cond (.t 19)
 (.seq (.reg [.op (some 20) (.mv (.t 5)),
  .op (some 21) (.mv (.t 0)),
  .op (some 22) (.mv (.t 6)),
  .op (some 23) (.mv (.t 7)),
  .op (some 24) (.sliceS (.t 21) (some (.t 22)) (some (.t 23))),
  .app (some 26) 25 9 1 16 (.t 20) 1 [(.lit (.string ⟨#[]⟩))] [(0, (.t 24))],
  .op (some 5) (.mv (.t 26))])
 (.reg [.op (some 27) (.mv (.t 7)),
  .op (some 28) (.binI .add (.t 27) (.v (.lit (.int .i64 (1))))),
  .op (some 6) (.mv (.t 28))]))
 .skip)))
 (.reg [.op (some 13) (.mv (.t 7)),
  .op (some 14) (.binI .add (.t 13) (.v (.lit (.int .i64 (1))))),
  .op (some 7) (.mv (.t 14))]))))))
 (.seq (.reg [.op (some 29) (.mv (.t 5)),
  .op (some 30) (.mv (.t 0)),
  .op (some 31) (.mv (.t 6)),
  .op (some 32) (.sliceS (.t 30) (some (.t 31)) none),
  .app (some 34) 33 9 1 16 (.t 29) 1 [(.lit (.string ⟨#[]⟩))] [(0, (.t 32))],
  .op (some 4) (.mv (.t 34))])
 .ret)))))
def rs21 : List RR := [.tmp 4]
def cut21 : Nat → Nat := fun id => 0
theorem k21 : (Tryd.f21.body.bind fun c => comp Tryd.prog Tryd.f21.ntmps cut21 c) = some r21 := by kernel_rfl
theorem by21 {W0 : World} {σ : List Blk} {args : List AV} {K : Cont} (hn : args.length ≤ 35) (h : rW Tryd.prog W0 σ.length r21 (initFr args) σ (finP W0 rs21 σ.length K)) : ACall Tryd.prog W0 21 args σ K :=
  ACall.introR mixed Tryd.func21 (by kernel_rfl) k21 (by kernel_rfl) hn h
def r22 : RC := (.seq (.reg [.op (some 4) (.alloc 44 [(.lit (.string ⟨#[]⟩)), (.lit (.string ⟨#[]⟩))]),
  .op (some 5) (.mv (.v (.lit (.bool false))))])
 (.seq (.reg [.op (some 11) (.mv (.t 1)),
  .op (some 12) (.call (.v (.lit (.func (.func 25) #[] #[]))) [(.t 11)]),
  .op (some 13) (.binS .add (.t 12) (.v (.lit (.string ⟨#[32]⟩)))),
  .op (some 6) (.mv (.t 13))])
 (.seq (.reg [.op (some 14) (.mv (.t 0)),
  .op (some 15) (.call (.v (.lit (.func (.func 21) #[] #[]))) [(.t 14), (.v (.lit (.int .u8 (35))))]),
  .op (some 16) (.iaddrS 1 (.t 15) (.v (.lit (.int .i64 (0))))),
  .op (some 17) (.load 1 false (.t 16)),
  .op (some 7) (.mv (.t 17))])
 (.seq (.seq (.reg [.op (some 18) (.mv (.t 7)),
  .op (some 19) (.lenS (.t 18)),
  .op (some 20) (.mv (.t 6)),
  .op (some 21) (.lenS (.t 20)),
  .op (some 22) (.binI .lss (.t 19) (.t 21)),
  .op (some 23) (.mv (.t 22)),
  .grp 23 false [((some 24), (.mv (.t 7))), ((some 25), (.mv (.t 6))), ((some 26), (.lenS (.t 25))), ((some 27), (.sliceS (.t 24) none (some (.t 26)))), ((some 28), (.mv (.t 6))), ((some 29), (.binS .neq (.t 27) (.t 28)))],
  .op (some 30) (.pick (.t 23) (.v (.lit (.bool true))) (.t 29))])
 (.cond (.t 30)
 (.seq (.reg [.op (some 31) (.build [(.lit (.string ⟨#[]⟩)), (.lit (.string ⟨#[]⟩))] []),
  .op none (.store 2 (.t 4) (.t 31)),
  .op (some 5) (.mv (.v (.lit (.bool false))))])
 .ret)
 .skip))
 (.seq (.reg [.op (some 32) (.mv (.t 7)),
  .op (some 33) (.mv (.t 6)),
  .op (some 34) (.lenS (.t 33)),
  .op (some 35) (.sliceS (.t 32) (some (.t 34)) none),
  .op (some 8) (.mv (.t 35))])
 (.seq (.reg [.op (some 36) (.mv (.t 8)),
  .op (some 37) (.call (.v (.lit (.func (.func 21) #[] #[]))) [(.t 36), (.v (.lit (.int .u8 (64))))]),
  .op (some 38) (.iaddrS 1 (.t 37) (.v (.lit (.int .i64 (0))))),
  .op (some 39) (.load 1 false (.t 38)),
  .op (some 9) (.mv (.t 39))])
 (.seq (.seq (.reg [.op (some 40) (.mv (.t 9)),
  .op (some 41) (.lenS (.t 40)),
  .op (some 42) (.mv (.t 8)),
  .op (some 43) (.lenS (.t 42)),
  .op (some 44) (.binI .eql (.t 41) (.t 43))])
 (.cond (.t 44)
 (.seq (.reg [.op (some 45) (.build [(.lit (.string ⟨#[]⟩)), (.lit (.string ⟨#[]⟩))] []),
  .op none (.store 2 (.t 4) (.t 45)),
  .op (some 5) (.mv (.v (.lit (.bool false))))])
 .ret)
 .skip))
 (.seq (.reg [.op (some 46) (.mv (.t 9)),
  .op (some 47) (.mv (.t 8)),
  .op (some 48) (.mv (.t 9)),
  .op (some 49) (.lenS (.t 48)),
  .op (some 50) (.binI .add (.t 49) (.v (.lit (.int .i64 (1))))),
  .op (some 51) (.sliceS (.t 47) (some (.t 50)) none),
  .op (some 52) (.build [(.lit (.string ⟨#[]⟩)), (.lit (.string ⟨#[]⟩))] [((0, 1), (.t 46)), ((1, 1), (.t 51))]),
  .op (some 10) (.alloc 44 [(.lit (.string ⟨#[]⟩)), (.lit (.string ⟨#[]⟩))]),
  .op none (.store 2 (.t 10) (.t 52))])
 (.seq (.any false (.n ⟨none, (some 53), (.load 2 true (.t 10))⟩
 (.n ⟨none, (some 54), (.load 2 true (.t 10))⟩
 (.n ⟨none, (some 55), (.call (.v (.lit (.func (.func 26) #[] #[]))) [(.t 54)])⟩
 (.n ⟨none, (some 56), (.mv (.t 55))⟩
 (.n ⟨(some (56, true)), (some 57), (.mv (.t 1))⟩
 (.n ⟨(some (56, true)), (some 58), (.load 2 true (.t 10))⟩
 (.n ⟨(some (56, true)), (some 59), (.call (.v (.lit (.func (.func 27) #[] #[]))) [(.t 57), (.t 58)])⟩
 (.n ⟨(some (56, true)), (some 60), (.mv (.t 0))⟩
 (.n ⟨(some (56, true)), (some 61), (.binS .add (.t 60) (.v (.lit (.string ⟨#[10]⟩))))⟩
 (.n ⟨(some (56, true)), (some 62), (.binS .eql (.t 59) (.t 61))⟩
 (.n ⟨none, (some 63), (.pick (.t 56) (.t 62) (.v (.lit (.bool false))))⟩
 (.t ⟨none, none, (.store 2 (.t 4) (.t 53))⟩
 (.n ⟨none, (some 5), (.mv (.t 63))⟩
 .fin))))))))))))))
 .ret)))))))))
def rs22 : List RR := [.cell 4 2 true, .tmp 5]
def cut22 : Nat → Nat := fun id => if id = 10 then 1004096 else 0
theorem k22 : (Tryd.f22.body.bind fun c => comp Tryd.prog Tryd.f22.ntmps cut22 c) = some r22 := by kernel_rfl
theorem by22 {W0 : World} {σ : List Blk} {args : List AV} {K : Cont} (hn : args.length ≤ 64) (h : rW Tryd.prog W0 σ.length r22 (initFr args) σ (finP W0 rs22 σ.length K)) : ACall Tryd.prog W0 22 args σ K :=
  ACall.introR mixed Tryd.func22 (by kernel_rfl) k22 (by kernel_rfl) hn h
def r23 : RC := (.seq (.reg [.op (some 4) (.mv (.v (.lit (.bool false))))])
 (.seq (.reg [.op (some 5) (.mv (.t 0)),
  .op (some 6) (.mv (.t 1)),
  .op (some 7) (.call (.v (.lit (.func (.func 28) #[] #[]))) [(.t 5), (.t 6)]),
  .op (some 8) (.binI .geq (.t 7) (.v (.lit (.int .i64 (0))))),
  .op (some 4) (.mv (.t 8))])
 .ret))
def rs23 : List RR := [.tmp 4]
def cut23 : Nat → Nat := fun id => 0
theorem k23 : (Tryd.f23.body.bind fun c => comp Tryd.prog Tryd.f23.ntmps cut23 c) = some r23 := by kernel_rfl
theorem by23 {W0 : World} {σ : List Blk} {args : List AV} {K : Cont} (hn : args.length ≤ 9) (h : rW Tryd.prog W0 σ.length r23 (initFr args) σ (finP W0 rs23 σ.length K)) : ACall Tryd.prog W0 23 args σ K :=
  ACall.introR mixed Tryd.func23 (by kernel_rfl) k23 (by kernel_rfl) hn h
def r24 : RC := (.seq (.reg [.op (some 4) (.alloc 44 [(.lit (.string ⟨#[]⟩)), (.lit (.string ⟨#[]⟩))]),
  .op (some 5) (.mv (.v (.lit (.string ⟨#[]⟩)))),
  .op (some 6) (.mv (.v (.lit (.bool false))))])
 (.seq (.reg [.op (some 21) (.mv (.t 0)),
  .op (some 22) (.call (.v (.lit (.func (.func 29) #[] #[]))) [(.t 21), (.v (.lit (.string ⟨#[10]⟩)))]),
  .op (some 20) (.mv (.t 22)),
  .op (some 23) (.ext (.t 20) 0),
  .op (some 24) (.ext (.t 20) 1),
  .op (some 25) (.ext (.t 20) 2),
  .op (some 7) (.mv (.t 23)),
  .op (some 8) (.mv (.t 24)),
  .op (some 9) (.mv (.t 25))])
 (.seq (.reg [.op (some 27) (.mv (.t 7)),
  .op (some 28) (.call (.v (.lit (.func (.func 30) #[] #[]))) [(.t 27)]),
  .op (some 26) (.mv (.t 28)),
  .op (some 29) (.ext (.t 26) 0),
  .op (some 30) (.ext (.t 26) 1),
  .op (some 10) (.mv (.t 29)),
  .op (some 11) (.mv (.t 30))])
 (.seq (.seq (.reg [.op (some 31) (.mv (.t 9)),
  .op (some 32) (.un .not (.t 31)),
  .op (some 33) (.mv (.t 32)),
  .grp 33 false [((some 34), (.mv (.t 11))), ((some 35), (.un .not (.t 34)))],
  .op (some 36) (.pick (.t 33) (.v (.lit (.bool true))) (.t 35))])
 (.cond (.t 36)
 (.seq (.reg [.op (some 37) (.build [(.lit (.string ⟨#[]⟩)), (.lit (.string ⟨#[]⟩))] []),
  .op none (.store 2 (.t 4) (.t 37)),
  .op (some 5) (.mv (.v (.lit (.string ⟨#[]⟩)))),
  .op (some 6) (.mv (.v (.lit (.bool false))))])
 .ret)
 .skip))
 (.seq (.reg [.op (some 39) (.mv (.t 10)),
  .op (some 40) (.call (.v (.lit (.func (.func 29) #[] #[]))) [(.t 39), (.v (.lit (.string ⟨#[32]⟩)))]),
  .op (some 38) (.mv (.t 40)),
  .op (some 41) (.ext (.t 38) 0),
  .op (some 42) (.ext (.t 38) 1),
  .op (some 43) (.ext (.t 38) 2),
  .op (some 12) (.mv (.t 41)),
  .op (some 13) (.mv (.t 42)),
  .op (some 14) (.mv (.t 43))])
 (.seq (.reg [.op (some 45) (.mv (.t 13)),
  .op (some 46) (.call (.v (.lit (.func (.func 29) #[] #[]))) [(.t 45), (.v (.lit (.string ⟨#[64]⟩)))]),
  .op (some 44) (.mv (.t 46)),
  .op (some 47) (.ext (.t 44) 0),
  .op (some 48) (.ext (.t 44) 1),
  .op (some 49) (.ext (.t 44) 2),
  .op (some 15) (.mv (.t 47)),
  .op (some 16) (.mv (.t 48)),
  .op (some 17) (.mv (.t 49))])
 (.seq (.reg [.op (some 50) (.mv (.t 15)),
  .op (some 51) (.mv (.t 16)),
  .op (some 52) (.build [(.lit (.string ⟨#[]⟩)), (.lit (.string ⟨#[]⟩))] [((0, 1), (.t 50)), ((1, 1), (.t 51))]),
  .op (some 18) (.alloc 44 [(.lit (.string ⟨#[]⟩)), (.lit (.string ⟨#[]⟩))]),
  .op none (.store 2 (.t 18) (.t 52))])
 (.seq (.reg [.op (some 54) (.mv (.t 1)),
  .op (some 55) (.load 2 true (.t 18)),
  .op (some 56) (.call (.v (.lit (.func (.func 31) #[] #[]))) [(.t 54), (.t 55)]),
  .op (some 53) (.mv (.t 56)),
  .op (some 57) (.ext (.t 53) 0),
  .op (some 58) (.ext (.t 53) 1),
  .op (some 19) (.mv (.t 57)),
  .op (some 11) (.mv (.t 58))])
 (.seq (.any false (.n ⟨none, (some 59), (.load 2 true (.t 18))⟩
 (.n ⟨none, (some 60), (.mv (.t 19))⟩
 (.n ⟨none, (some 61), (.mv (.t 11))⟩
 (.n ⟨none, (some 62), (.mv (.t 61))⟩
 (.n ⟨(some (62, true)), (some 63), (.mv (.t 0))⟩
 (.n ⟨(some (62, true)), (some 64), (.mv (.t 19))⟩
 (.n ⟨(some (62, true)), (some 65), (.call (.v (.lit (.func (.func 32) #[] #[]))) [(.t 63), (.t 64)])⟩
 (.n ⟨none, (some 66), (.pick (.t 62) (.t 65) (.v (.lit (.bool false))))⟩
 (.t ⟨none, none, (.store 2 (.t 4) (.t 59))⟩
 (.n ⟨none, (some 5), (.mv (.t 60))⟩
 (.n ⟨none, (some 6), (.mv (.t 66))⟩
 .fin))))))))))))
 .ret)))))))))
def rs24 : List RR := [.cell 4 2 true, .tmp 5, .tmp 6]
def cut24 : Nat → Nat := fun id => if id = 9 then 1000512 else 0
theorem k24 : (Tryd.f24.body.bind fun c => comp Tryd.prog Tryd.f24.ntmps cut24 c) = some r24 := by kernel_rfl
theorem by24 {W0 : World} {σ : List Blk} {args : List AV} {K : Cont} (hn : args.length ≤ 67) (h : rW Tryd.prog W0 σ.length r24 (initFr args) σ (finP W0 rs24 σ.length K)) : ACall Tryd.prog W0 24 args σ K :=
  ACall.introR mixed Tryd.func24 (by kernel_rfl) k24 (by kernel_rfl) hn h
def r25 : RC := (.seq (.reg [.op (some 2) (.mv (.v (.lit (.string ⟨#[]⟩))))])
 (.seq (.seq (.reg [.op (some 3) (.mv (.t 0)),
  .op (some 4) (.binI .lss (.t 3) (.v (.lit (.int .i64 (0)))))])
 (.cond (.t 4)
 (.seq (.seq (.reg [.op (some 5) (.mv (.t 0)),
  .op (some 6) (.binI .gtr (.t 5) (.v (.lit (.int .i64 (-10)))))])
 (.cond (.t 6)
 (.seq (.reg [.op (some 7) (.mv (.t 0)),
  .op (some 8) (.un .neg (.t 7)),
  .op (some 9) (.call (.v (.lit (.func (.func 25) #[] #[]))) [(.t 8)]),
  .op (some 10) (.binS .add (.v (.lit (.string ⟨#[45]⟩))) (.t 9)),
  .op (some 2) (.mv (.t 10))])
 .ret)
 .skip))
 (.seq (.reg [.op (some 11) (.mv (.t 0)),
  .op (some 12) (.binI .quo (.t 11) (.v (.lit (.int .i64 (10))))),
  .op (some 13) (.call (.v (.lit (.func (.func 25) #[] #[]))) [(.t 12)]),
  .op (some 14) (.mv (.t 0)),
  .op (some 15) (.binI .rem (.t 14) (.v (.lit (.int .i64 (10))))),
  .op (some 16) (.un .neg (.t 15)),
  .op (some 17) (.call (.v (.lit (.func (.func 25) #[] #[]))) [(.t 16)]),
  .op (some 18) (.binS .add (.t 13) (.t 17)),
  .op (some 2) (.mv (.t 18))])
 .ret))
 .skip))
 (.seq (.seq (.reg [.op (some 19) (.mv (.t 0)),
  .op (some 20) (.binI .lss (.t 19) (.v (.lit (.int .i64 (10)))))])
 (.cond (.t 20)
 (.seq (.reg [.op (some 21) (.mv (.t 0)),
  .op (some 22) (.mv (.t 0)),
  .op (some 23) (.binI .add (.t 22) (.v (.lit (.int .i64 (1))))),
  .op (some 24) (.sliceS (.v (.lit (.string ⟨#[48, 49, 50, 51, 52, 53, 54, 55, 56, 57]⟩))) (some (.t 21)) (some (.t 23))),
  .op (some 2) (.mv (.t 24))])
 .ret)
 .skip))
 (.seq (.draw [((some 25), (.mv (.t 0))), ((some 26), (.binI .quo (.t 25) (.v (.lit (.int .i64 (10)))))), ((some 27), (.call (.v (.lit (.func (.func 25) #[] #[]))) [(.t 26)])), ((some 28), (.mv (.t 0))), ((some 29), (.binI .rem (.t 28) (.v (.lit (.int .i64 (10)))))), ((some 30), (.mv (.t 0))), ((some 31), (.binI .rem (.t 30) (.v (.lit (.int .i64 (10)))))), ((some 32), (.binI .add (.t 31) (.v (.lit (.int .i64 (1)))))), ((some 33), (.sliceS (.v (.lit (.string ⟨#[48, 49, 50, 51, 52, 53, 54, 55, 56, 57]⟩))) (some (.t 29)) (some (.t 32)))), ((some 34), (.binS .add (.t 27) (.t 33))), ((some 2), (.mv (.t 34)))] [])
 .ret))))
def rs25 : List RR := [.tmp 2]
def cut25 : Nat → Nat := fun id => if id = 7 then 23 else 0
theorem k25 : (Tryd.f25.body.bind fun c => comp Tryd.prog Tryd.f25.ntmps cut25 c) = some r25 := by kernel_rfl
theorem by25 {W0 : World} {σ : List Blk} {args : List AV} {K : Cont} (hn : args.length ≤ 35) (h : rW Tryd.prog W0 σ.length r25 (initFr args) σ (finP W0 rs25 σ.length K)) : ACall Tryd.prog W0 25 args σ K :=
  ACall.introR mixed Tryd.func25 (by kernel_rfl) k25 (by kernel_rfl) hn h
def r26 : RC := (.seq (.reg [.op (some 1) (.box 44 (.t 0)),
  .op (some 2) (.mv (.v (.lit (.bool false))))])
 (.seq (.reg [.op (some 3) (.faddr 0 (.t 1)),
  .op (some 4) (.load 1 false (.t 3)),
  .op (some 5) (.binS .neq (.t 4) (.v (.lit (.string ⟨#[]⟩)))),
  .op (some 6) (.mv (.t 5)),
  .grp 6 true [((some 7), (.faddr 0 (.t 1))), ((some 8), (.load 1 false (.t 7))), ((some 9), (.call (.v (.lit (.func (.func 33) #[] #[]))) [(.t 8), (.v (.lit (.int .i64 (160))))]))],
  .op (some 10) (.pick (.t 6) (.t 9) (.v (.lit (.bool false)))),
  .op (some 11) (.mv (.t 10)),
  .grp 11 true [((some 12), (.faddr 0 (.t 1))), ((some 13), (.load 1 false (.t 12))), ((some 14), (.call (.v (.lit (.func (.func 34) #[] #[]))) [(.t 13), (.v (.lit (.int .u8 (64))))])), ((some 15), (.un .not (.t 14)))],
  .op (some 16) (.pick (.t 11) (.t 15) (.v (.lit (.bool false)))),
  .op (some 17) (.mv (.t 16)),
  .grp 17 true [((some 18), (.faddr 1 (.t 1))), ((some 19), (.load 1 false (.t 18))), ((some 20), (.call (.v (.lit (.func (.func 33) #[] #[]))) [(.t 19), (.v (.lit (.int .i64 (250))))]))],
  .op (some 21) (.pick (.t 17) (.t 20) (.v (.lit (.bool false)))),
  .op (some 2) (.mv (.t 21))])
 .ret))
def rs26 : List RR := [.tmp 2]
def cut26 : Nat → Nat := fun id => 0
theorem k26 : (Tryd.f26.body.bind fun c => comp Tryd.prog Tryd.f26.ntmps cut26 c) = some r26 := by kernel_rfl
theorem by26 {W0 : World} {σ : List Blk} {args : List AV} {K : Cont} (hn : args.length ≤ 22) (h : rW Tryd.prog W0 σ.length r26 (initFr args) σ (finP W0 rs26 σ.length K)) : ACall Tryd.prog W0 26 args σ K :=
  ACall.introR mixed Tryd.func26 (by kernel_rfl) k26 (by kernel_rfl) hn h
def r27 : RC := (.seq (.reg [.op (some 3) (.box 44 (.t 1)),
  .op (some 4) (.mv (.v (.lit (.string ⟨#[]⟩))))])
 (.seq (.draw [((some 5), (.mv (.t 0))), ((some 6), (.call (.v (.lit (.func (.func 25) #[] #[]))) [(.t 5)])), ((some 7), (.binS .add (.t 6) (.v (.lit (.string ⟨#[32]⟩))))), ((some 8), (.faddr 0 (.t 3))), ((some 9), (.load 1 false (.t 8))), ((some 10), (.binS .add (.t 7) (.t 9))), ((some 11), (.binS .add (.t 10) (.v (.lit (.string ⟨#[64]⟩))))), ((some 12), (.faddr 1 (.t 3))), ((some 13), (.load 1 false (.t 12))), ((some 14), (.binS .add (.t 11) (.t 13))), ((some 15), (.call (.v (.lit (.func (.func 35) #[] #[]))) [(.t 14)])), ((some 16), (.binS .add (.t 15) (.v (.lit (.string ⟨#[10]⟩))))), ((some 4), (.mv (.t 16)))] [])
 .ret))
def rs27 : List RR := [.tmp 4]
def cut27 : Nat → Nat := fun id => if id = 1 then 27 else 0
theorem k27 : (Tryd.f27.body.bind fun c => comp Tryd.prog Tryd.f27.ntmps cut27 c) = some r27 := by kernel_rfl
theorem by27 {W0 : World} {σ : List Blk} {args : List AV} {K : Cont} (hn : args.length ≤ 17) (h : rW Tryd.prog W0 σ.length r27 (initFr args) σ (finP W0 rs27 σ.length K)) : ACall Tryd.prog W0 27 args σ K :=
  ACall.introR mixed Tryd.func27 (by kernel_rfl) k27 (by kernel_rfl) hn h
def r28 : RC := (.seq (.reg [.op (some 4) (.mv (.v (.lit (.int .i64 (0)))))])
 (.seq (.seq (.reg [.op (some 6) (.mv (.t 0)),
  .op (some 7) (.lenL (.t 6)),
  .op (some 8) (.mv (.v (.lit (.int .i64 (0)))))])
 (.block 0 (.loop (.seq (.reg [.op (some 9) (.binI .lss (.t 8) (.t 7))])
 (.seq (.cond (.t 9)
 .skip
 (.exit 0))
 (.seq (.block 1 (.seq (.reg [.op (some 10) (.mv (.t 8)),
  .op (some 5) (.mv (.t 10))])
 (.seq (.reg [.op (some 11) (.mv (.t 1)),
  .op (some 12) (.mv (.t 0)),
  .op (some 13) (.mv (.t 5)),
  .op (some 14) (.iaddrS 1 (.t 12) (.t 13)),
  .op (some 15) (.load 1 false (.t 14)),
  .op (some 16) (.binI .eql (.t 11) (.t 15))])
 (.cond (.t 16)
 (.seq (.reg [.op (some 17) (.mv (.t 5)),
  .op (some 4) (.mv (.t 17))])
 .ret)
 .skip))))
 (.reg [.op (some 18) (.binI .add (.t 8) (.v (.lit (.int .i64 (1))))),
  .op (some 8) (.mv (.t 18))])))))))
 (.seq (.reg [.op (some 4) (.mv (.v (.lit (.int .i64 (-1)))))])
 .ret)))
def rs28 : List RR := [.tmp 4]
def cut28 : Nat → Nat := fun id => 0
theorem k28 : (Tryd.f28.body.bind fun c => comp Tryd.prog Tryd.f28.ntmps cut28 c) = some r28 := by kernel_rfl
theorem by28 {W0 : World} {σ : List Blk} {args : List AV} {K : Cont} (hn : args.length ≤ 19) (h : rW Tryd.prog W0 σ.length r28 (initFr args) σ (finP W0 rs28 σ.length K)) : ACall Tryd.prog W0 28 args σ K :=
  ACall.introR mixed Tryd.func28 (by kernel_rfl) k28 (by kernel_rfl) hn h
def r29 : RC := (.seq (.reg [.op (some 4) (.mv (.v (.lit (.string ⟨#[]⟩)))),
  .op (some 5) (.mv (.v (.lit (.string ⟨#[]⟩)))),
  .op (some 6) (.mv (.v (.lit (.bool false))))])
 (.seq (.reg [.op (some 7) (.mv (.t 0)),
  .op (some 8) (.mv (.t 1)),
  .op (some 9) (.call (.v (.lit (.func (.func 36) #[] #[]))) [(.t 7), (.t 8)]),
  .op (some 10) (.ext (.t 9) 0),
  .op (some 11) (.ext (.t 9) 1),
  .op (some 12) (.ext (.t 9) 2),
  .op (some 4) (.mv (.t 10)),
  .op (some 5) (.mv (.t 11)),
  .op (some 6) (.mv (.t 12))])
 .ret))
def rs29 : List RR := [.tmp 4, .tmp 5, .tmp 6]
def cut29 : Nat → Nat := fun id => 0
theorem k29 : (Tryd.f29.body.bind fun c => comp Tryd.prog Tryd.f29.ntmps cut29 c) = some r29 := by kernel_rfl
theorem by29 {W0 : World} {σ : List Blk} {args : List AV} {K : Cont} (hn : args.length ≤ 13) (h : rW Tryd.prog W0 σ.length r29 (initFr args) σ (finP W0 rs29 σ.length K)) : ACall Tryd.prog W0 29 args σ K :=
  ACall.introR mixed Tryd.func29 (by kernel_rfl) k29 (by kernel_rfl) hn h
def r30 : RC := (.seq (.reg [.op (some 2) (.mv (.v (.lit (.string ⟨#[]⟩)))),
  .op (some 3) (.mv (.v (.lit (.bool false))))])
 (.seq (.reg [.op (some 10) (.mv (.t 0)),
  .op (some 11) (.call (.v (.lit (.func (.func 29) #[] #[]))) [(.t 10), (.v (.lit (.string ⟨#[35]⟩)))]),
  .op (some 9) (.mv (.t 11)),
  .op (some 12) (.ext (.t 9) 0),
  .op (some 13) (.ext (.t 9) 1),
  .op (some 14) (.ext (.t 9) 2),
  .op (some 4) (.mv (.t 12)),
  .op (some 5) (.mv (.t 13)),
  .op (some 6) (.mv (.t 14))])
 (.seq (.seq (.reg [.op (some 16) (.mv (.t 4)),
  .op (some 17) (.call (.v (.lit (.func (.func 37) #[] #[]))) [(.t 16)]),
  .op (some 15) (.mv (.t 17)),
  .op (some 18) (.ext (.t 15) 0),
  .op (some 19) (.ext (.t 15) 1),
  .op (some 7) (.mv (.t 18)),
  .op (some 8) (.mv (.t 19))])
 (.seq (.reg [.op (some 20) (.mv (.t 8)),
  .op (some 21) (.mv (.t 20)),
  .grp 21 true [((some 22), (.mv (.t 7))), ((some 23), (.mv (.t 0))), ((some 24), (.binS .eql (.t 22) (.t 23)))],
  .op (some 25) (.pick (.t 21) (.t 24) (.v (.lit (.bool false))))])
 (.cond (.t 25)
 (.seq (.reg [.op (some 26) (.mv (.t 4)),
  .op (some 2) (.mv (.t 26)),
  .op (some 3) (.mv (.v (.lit (.bool true))))])
 .ret)
 .skip)))
 (.seq (.reg [.op (some 2) (.mv (.v (.lit (.string ⟨#[]⟩)))),
  .op (some 3) (.mv (.v (.lit (.bool false))))])
 .ret))))
def rs30 : List RR := [.tmp 2, .tmp 3]
def cut30 : Nat → Nat := fun id => 0
theorem k30 : (Tryd.f30.body.bind fun c => comp Tryd.prog Tryd.f30.ntmps cut30 c) = some r30 := by kernel_rfl
theorem by30 {W0 : World} {σ : List Blk} {args : List AV} {K : Cont} (hn : args.length ≤ 27) (h : rW Tryd.prog W0 σ.length r30 (initFr args) σ (finP W0 rs30 σ.length K)) : ACall Tryd.prog W0 30 args σ K :=
  ACall.introR mixed Tryd.func30 (by kernel_rfl) k30 (by kernel_rfl) hn h
def r31 : RC := (.seq (.reg [.op (some 3) (.box 44 (.t 1)),
  .op (some 4) (.mv (.v (.lit (.string ⟨#[]⟩)))),
  .op (some 5) (.mv (.v (.lit (.bool false))))])
 (.seq (.seq (.reg [.op (some 8) (.mv (.t 0)),
  .op (some 9) (.binI .lss (.t 8) (.v (.lit (.int .i64 (0))))),
  .op (some 10) (.mv (.t 9)),
  .grp 10 false [((some 11), (.mv (.t 0))), ((some 12), (.binI .geq (.t 11) (.v (.lit (.int .i64 (60))))))],
  .op (some 13) (.pick (.t 10) (.v (.lit (.bool true))) (.t 12)),
  .op (some 14) (.mv (.t 13)),
  .grp 14 false [((some 15), (.load 2 true (.t 3))), ((some 16), (.call (.v (.lit (.func (.func 38) #[] #[]))) [(.t 15)])), ((some 17), (.un .not (.t 16)))],
  .op (some 18) (.pick (.t 14) (.v (.lit (.bool true))) (.t 17))])
 (.cond (.t 18)
 (.seq (.reg [.op (some 4) (.mv (.v (.lit (.string ⟨#[]⟩)))),
  .op (some 5) (.mv (.v (.lit (.bool false))))])
 .ret)
 .skip))
 (.seq (.draw [((some 20), (.mv (.t 0))), ((some 21), (.call (.v (.lit (.func (.func 39) #[] #[]))) [(.t 20)])), ((some 22), (.binS .add (.t 21) (.v (.lit (.string ⟨#[32]⟩))))), ((some 23), (.faddr 0 (.t 3))), ((some 24), (.load 1 false (.t 23))), ((some 25), (.binS .add (.t 22) (.t 24))), ((some 26), (.binS .add (.t 25) (.v (.lit (.string ⟨#[64]⟩))))), ((some 27), (.faddr 1 (.t 3))), ((some 28), (.load 1 false (.t 27))), ((some 29), (.binS .add (.t 26) (.t 28))), ((some 30), (.call (.v (.lit (.func (.func 37) #[] #[]))) [(.t 29)])), ((some 19), (.mv (.t 30))), ((some 31), (.ext (.t 19) 0)), ((some 32), (.ext (.t 19) 1)), ((some 6), (.mv (.t 31))), ((some 7), (.mv (.t 32)))] [])
 (.seq (.seq (.reg [.op (some 33) (.mv (.t 7)),
  .op (some 34) (.un .not (.t 33))])
 (.cond (.t 34)
 (.seq (.reg [.op (some 4) (.mv (.v (.lit (.string ⟨#[]⟩)))),
  .op (some 5) (.mv (.v (.lit (.bool false))))])
 .ret)
 .skip))
 (.seq (.reg [.op (some 35) (.mv (.t 6)),
  .op (some 36) (.binS .add (.t 35) (.v (.lit (.string ⟨#[10]⟩)))),
  .op (some 4) (.mv (.t 36)),
  .op (some 5) (.mv (.v (.lit (.bool true))))])
 .ret)))))
def rs31 : List RR := [.tmp 4, .tmp 5]
def cut31 : Nat → Nat := fun id => if id = 3 then 33 else 0
theorem k31 : (Tryd.f31.body.bind fun c => comp Tryd.prog Tryd.f31.ntmps cut31 c) = some r31 := by kernel_rfl
theorem by31 {W0 : World} {σ : List Blk} {args : List AV} {K : Cont} (hn : args.length ≤ 37) (h : rW Tryd.prog W0 σ.length r31 (initFr args) σ (finP W0 rs31 σ.length K)) : ACall Tryd.prog W0 31 args σ K :=
  ACall.introR mixed Tryd.func31 (by kernel_rfl) k31 (by kernel_rfl) hn h
def r32 : RC := (.seq (.reg [.op (some 4) (.mv (.v (.lit (.bool false))))])
 (.seq (.reg [.op (some 5) (.mv (.t 0)),
  .op (some 6) (.mv (.t 1)),
  .op (some 7) (.call (.v (.lit (.func (.func 40) #[] #[]))) [(.t 5), (.t 6)]),
  .op (some 4) (.mv (.t 7))])
 .ret))
def rs32 : List RR := [.tmp 4]
def cut32 : Nat → Nat := fun id => 0
theorem k32 : (Tryd.f32.body.bind fun c => comp Tryd.prog Tryd.f32.ntmps cut32 c) = some r32 := by kernel_rfl
theorem by32 {W0 : World} {σ : List Blk} {args : List AV} {K : Cont} (hn : args.length ≤ 8) (h : rW Tryd.prog W0 σ.length r32 (initFr args) σ (finP W0 rs32 σ.length K)) : ACall Tryd.prog W0 32 args σ K :=
  ACall.introR mixed Tryd.func32 (by kernel_rfl) k32 (by kernel_rfl) hn h
def r33 : RC := (.seq (.reg [.op (some 4) (.mv (.v (.lit (.bool false))))])
 (.seq (.seq (.reg [.op (some 5) (.mv (.v (.lit (.int .i64 (0)))))])
 (.block 0 (.loop (.seq (.seq (.reg [.op (some 6) (.mv (.t 5)),
  .op (some 7) (.mv (.t 0)),
  .op (some 8) (.lenS (.t 7)),
  .op (some 9) (.binI .lss (.t 6) (.t 8))])
 (.cond (.t 9)
 .skip
 (.exit 0)))
 (.seq (.block 1 (.seq (.reg [.op (some 12) (.mv (.t 0)),
  .op (some 13) (.mv (.t 5)),
  .op (some 14) (.idxS (.t 12) (.t 13)),
  .op (some 15) (.conv .i64 (.t 14)),
  .op (some 16) (.call (.v (.lit (.func (.func 20) #[] #[]))) [(.t 15), (.v (.lit (.int .i64 (32)))), (.v (.lit (.int .i64 (126))))]),
  .op (some 17) (.un .not (.t 16)),
  .op (some 18) (.mv (.t 17)),
  .grp 18 false [((some 19), (.mv (.t 0))), ((some 20), (.mv (.t 5))), ((some 21), (.idxS (.t 19) (.t 20))), ((some 22), (.binI .eql (.t 21) (.v (.lit (.int .u8 (35))))))],
  .op (some 23) (.pick (.t 18) (.v (.lit (.bool true))) (.t 22))])
 (.cond (.t 23)
 (.seq (.reg [.op (some 4) (.mv (.v (.lit (.bool false))))])
 .ret)
 .skip)))
 (.reg [.op (some 10) (.mv (.t 5)),
  .op (some 11) (.binI .add (.t 10) (.v (.lit (.int .i64 (1))))),
  .op (some 5) (.mv (.t 11))]))))))
 (.seq (.reg [.op (some 24) (.mv (.t 0)),
  .op (some 25) (.lenS (.t 24)),
  .op (some 26) (.mv (.t 1)),
  .op (some 27) (.binI .leq (.t 25) (.t 26)),
  .op (some 4) (.mv (.t 27))])
 .ret)))
def rs33 : List RR := [.tmp 4]
def cut33 : Nat → Nat := fun id => 0
theorem k33 : (Tryd.f33.body.bind fun c => comp Tryd.prog Tryd.f33.ntmps cut33 c) = some r33 := by kernel_rfl
theorem by33 {W0 : World} {σ : List Blk} {args : List AV} {K : Cont} (hn : args.length ≤ 28) (h : rW Tryd.prog W0 σ.length r33 (initFr args) σ (finP W0 rs33 σ.length K)) : ACall Tryd.prog W0 33 args σ K :=
  ACall.introR mixed Tryd.func33 (by kernel_rfl) k33 (by kernel_rfl) hn h
def r34 : RC := (.seq (.reg [.op (some 4) (.mv (.v (.lit (.bool false))))])
 (.seq (.seq (.reg [.op (some 5) (.mv (.v (.lit (.int .i64 (0)))))])
 (.block 0 (.loop (.seq (.seq (.reg [.op (some 6) (.mv (.t 5)),
  .op (some 7) (.mv (.t 0)),
  .op (some 8) (.lenS (.t 7)),
  .op (some 9) (.binI .lss (.t 6) (.t 8))])
 (.cond (.t 9)
 .skip
 (.exit 0)))
 (.seq (.block 1 (.seq (.reg [.op (some 12) (.mv (.t 0)),
  .op (some 13) (.mv (.t 5)),
  .op (some 14) (.idxS (.t 12) (.t 13)),
  .op (some 15) (.mv (.t 1)),
  .op (some 16) (.binI .eql (.t 14) (.t 15))])
 (.cond (.t 16)
 (.seq (.reg [.op (some 4) (.mv (.v (.lit (.bool true))))])
 .ret)
 .skip)))
 (.reg [.op (some 10) (.mv (.t 5)),
  .op (some 11) (.binI .add (.t 10) (.v (.lit (.int .i64 (1))))),
  .op (some 5) (.mv (.t 11))]))))))
 (.seq (.reg [.op (some 4) (.mv (.v (.lit (.bool false))))])
 .ret)))
def rs34 : List RR := [.tmp 4]
def cut34 : Nat → Nat := fun id => 0
theorem k34 : (Tryd.f34.body.bind fun c => comp Tryd.prog Tryd.f34.ntmps cut34 c) = some r34 := by kernel_rfl
theorem by34 {W0 : World} {σ : List Blk} {args : List AV} {K : Cont} (hn : args.length ≤ 17) (h : rW Tryd.prog W0 σ.length r34 (initFr args) σ (finP W0 rs34 σ.length K)) : ACall Tryd.prog W0 34 args σ K :=
  ACall.introR mixed Tryd.func34 (by kernel_rfl) k34 (by kernel_rfl) hn h
def r35 : RC := (.seq (.reg [.op (some 2) (.mv (.v (.lit (.string ⟨#[]⟩))))])
 (.seq (.reg [.op (some 3) (.mv (.t 0)),
  .op (some 4) (.binS .add (.t 3) (.v (.lit (.string ⟨#[35]⟩)))),
  .op (some 5) (.mv (.t 0)),
  .op (some 6) (.call (.v (.lit (.func (.func 41) #[] #[]))) [(.t 5)]),
  .op (some 7) (.call (.v (.lit (.func (.func 25) #[] #[]))) [(.t 6)]),
  .op (some 8) (.binS .add (.t 4) (.t 7)),
  .op (some 2) (.mv (.t 8))])
 .ret))
def rs35 : List RR := [.tmp 2]
def cut35 : Nat → Nat := fun id => 0
theorem k35 : (Tryd.f35.body.bind fun c => comp Tryd.prog Tryd.f35.ntmps cut35 c) = some r35 := by kernel_rfl
theorem by35 {W0 : World} {σ : List Blk} {args : List AV} {K : Cont} (hn : args.length ≤ 9) (h : rW Tryd.prog W0 σ.length r35 (initFr args) σ (finP W0 rs35 σ.length K)) : ACall Tryd.prog W0 35 args σ K :=
  ACall.introR mixed Tryd.func35 (by kernel_rfl) k35 (by kernel_rfl) hn h
def r36 : RC := (.seq (.reg [.op (some 4) (.mv (.v (.lit (.string ⟨#[]⟩)))),
  .op (some 5) (.mv (.v (.lit (.string ⟨#[]⟩)))),
  .op (some 6) (.mv (.v (.lit (.bool false))))])
 (.seq (.seq (.reg [.op (some 8) (.mv (.t 0)),
  .op (some 9) (.mv (.t 1)),
  .op (some 10) (.call (.v (.lit (.func (.func 42) #[] #[]))) [(.t 8), (.t 9)]),
  .op (some 7) (.mv (.t 10))])
 (.seq (.reg [.op (some 11) (.mv (.t 7)),
  .op (some 12) (.binI .geq (.t 11) (.v (.lit (.int .i64 (0)))))])
 (.cond (.t 12)
 (.seq (.draw [((some 13), (.mv (.t 0))), ((some 14), (.mv (.t 7))), ((some 15), (.sliceS (.t 13) none (some (.t 14)))), ((some 16), (.mv (.t 0))), ((some 17), (.mv (.t 7))), ((some 18), (.mv (.t 1))), ((some 19), (.lenS (.t 18))), ((some 20), (.binI .add (.t 17) (.t 19))), ((some 21), (.sliceS (.t 16) (some (.t 20)) none)), ((some 4), (.mv (.t 15))), ((some 5), (.mv (.t 21))), ((some 6), (.mv (.v (.lit (.bool true)))))] [])
 .ret)
 .skip)))
 (.seq (.reg [.op (some 22) (.mv (.t 0)),
  .op (some 4) (.mv (.t 22)),
  .op (some 5) (.mv (.v (.lit (.string ⟨#[]⟩)))),
  .op (some 6) (.mv (.v (.lit (.bool false))))])
 .ret)))
def rs36 : List RR := [.tmp 4, .tmp 5, .tmp 6]
def cut36 : Nat → Nat := fun id => if id = 3 then 25 else 0
theorem k36 : (Tryd.f36.body.bind fun c => comp Tryd.prog Tryd.f36.ntmps cut36 c) = some r36 := by kernel_rfl
theorem by36 {W0 : World} {σ : List Blk} {args : List AV} {K : Cont} (hn : args.length ≤ 23) (h : rW Tryd.prog W0 σ.length r36 (initFr args) σ (finP W0 rs36 σ.length K)) : ACall Tryd.prog W0 36 args σ K :=
  ACall.introR mixed Tryd.func36 (by kernel_rfl) k36 (by kernel_rfl) hn h
def r37 : RC := (.seq (.reg [.op (some 2) (.mv (.v (.lit (.string ⟨#[]⟩)))),
  .op (some 3) (.mv (.v (.lit (.bool false))))])
 (.seq (.seq (.reg [.op (some 5) (.mv (.t 0)),
  .op (some 6) (.lenS (.t 5)),
  .op (some 7) (.binI .gtr (.t 6) (.v (.lit (.int .i64 (4000))))),
  .op (some 8) (.mv (.t 7)),
  .grp 8 false [((some 9), (.mv (.t 0))), ((some 10), (.call (.v (.lit (.func (.func 43) #[] #[]))) [(.t 9), (.v (.lit (.string ⟨#[35]⟩)))]))],
  .op (some 11) (.pick (.t 8) (.v (.lit (.bool true))) (.t 10))])
 (.cond (.t 11)
 (.seq (.reg [.op (some 2) (.mv (.v (.lit (.string ⟨#[]⟩)))),
  .op (some 3) (.mv (.v (.lit (.bool false))))])
 .ret)
 .skip))
 (.seq (.reg [.op (some 12) (.mv (.t 0)),
  .op (some 13) (.binS .add (.t 12) (.v (.lit (.string ⟨#[35]⟩)))),
  .op (some 14) (.mv (.t 0)),
  .op (some 15) (.call (.v (.lit (.func (.func 44) #[] #[]))) [(.t 14)]),
  .op (some 16) (.call (.v (.lit (.func (.func 39) #[] #[]))) [(.t 15)]),
  .op (some 17) (.binS .add (.t 13) (.t 16)),
  .op (some 4) (.mv (.t 17))])
 (.seq (.seq (.reg [.op (some 18) (.mv (.t 4)),
  .op (some 19) (.lenS (.t 18)),
  .op (some 20) (.binI .gtr (.t 19) (.v (.lit (.int .i64 (4000)))))])
 (.cond (.t 20)
 (.seq (.reg [.op (some 2) (.mv (.v (.lit (.string ⟨#[]⟩)))),
  .op (some 3) (.mv (.v (.lit (.bool false))))])
 .ret)
 .skip))
 (.seq (.reg [.op (some 21) (.mv (.t 4)),
  .op (some 2) (.mv (.t 21)),
  .op (some 3) (.mv (.v (.lit (.bool true))))])
 .ret)))))
def rs37 : List RR := [.tmp 2, .tmp 3]
def cut37 : Nat → Nat := fun id => 0
theorem k37 : (Tryd.f37.body.bind fun c => comp Tryd.prog Tryd.f37.ntmps cut37 c) = some r37 := by kernel_rfl
theorem by37 {W0 : World} {σ : List Blk} {args : List AV} {K : Cont} (hn : args.length ≤ 22) (h : rW Tryd.prog W0 σ.length r37 (initFr args) σ (finP W0 rs37 σ.length K)) : ACall Tryd.prog W0 37 args σ K :=
  ACall.introR mixed Tryd.func37 (by kernel_rfl) k37 (by kernel_rfl) hn h
def r38 : RC := (.seq (.reg [.op (some 1) (.box 44 (.t 0)),
  .op (some 2) (.mv (.v (.lit (.bool false))))])
 (.seq (.reg [.op (some 3) (.faddr 0 (.t 1)),
  .op (some 4) (.load 1 false (.t 3)),
  .op (some 5) (.call (.v (.lit (.func (.func 45) #[] #[]))) [(.t 4)]),
  .op (some 6) (.mv (.t 5)),
  .grp 6 true [((some 7), (.faddr 1 (.t 1))), ((some 8), (.load 1 false (.t 7))), ((some 9), (.lenS (.t 8))), ((some 10), (.binI .leq (.t 9) (.v (.lit (.int .i64 (250))))))],
  .op (some 11) (.pick (.t 6) (.t 10) (.v (.lit (.bool false)))),
  .op (some 12) (.mv (.t 11)),
  .grp 12 true [((some 13), (.faddr 1 (.t 1))), ((some 14), (.load 1 false (.t 13))), ((some 15), (.call (.v (.lit (.func (.func 46) #[] #[]))) [(.t 14)]))],
  .op (some 16) (.pick (.t 12) (.t 15) (.v (.lit (.bool false)))),
  .op (some 2) (.mv (.t 16))])
 .ret))
def rs38 : List RR := [.tmp 2]
def cut38 : Nat → Nat := fun id => 0
theorem k38 : (Tryd.f38.body.bind fun c => comp Tryd.prog Tryd.f38.ntmps cut38 c) = some r38 := by kernel_rfl
theorem by38 {W0 : World} {σ : List Blk} {args : List AV} {K : Cont} (hn : args.length ≤ 17) (h : rW Tryd.prog W0 σ.length r38 (initFr args) σ (finP W0 rs38 σ.length K)) : ACall Tryd.prog W0 38 args σ K :=
  ACall.introR mixed Tryd.func38 (by kernel_rfl) k38 (by kernel_rfl) hn h
def r39 : RC := (.seq (.reg [.op (some 2) (.mv (.v (.lit (.string ⟨#[]⟩))))])
 (.seq (.reg [.op (some 3) (.mv (.t 0)),
  .op (some 4) (.call (.v (.lit (.func (.func 47) #[] #[]))) [(.t 3)]),
  .op (some 2) (.mv (.t 4))])
 .ret))
def rs39 : List RR := [.tmp 2]
def cut39 : Nat → Nat := fun id => 0
theorem k39 : (Tryd.f39.body.bind fun c => comp Tryd.prog Tryd.f39.ntmps cut39 c) = some r39 := by kernel_rfl
theorem by39 {W0 : World} {σ : List Blk} {args : List AV} {K : Cont} (hn : args.length ≤ 5) (h : rW Tryd.prog W0 σ.length r39 (initFr args) σ (finP W0 rs39 σ.length K)) : ACall Tryd.prog W0 39 args σ K :=
  ACall.introR mixed Tryd.func39 (by kernel_rfl) k39 (by kernel_rfl) hn h
def r40 : RC := (.seq (.reg [.op (some 4) (.mv (.v (.lit (.bool false))))])
 (.seq (.reg [.op (some 5) (.mv (.t 0)),
  .op (some 6) (.lenS (.t 5)),
  .op (some 7) (.mv (.t 1)),
  .op (some 8) (.lenS (.t 7)),
  .op (some 9) (.binI .geq (.t 6) (.t 8)),
  .op (some 10) (.mv (.t 9)),
  .grp 10 true [((some 11), (.mv (.t 0))), ((some 12), (.mv (.t 1))), ((some 13), (.lenS (.t 12))), ((some 14), (.sliceS (.t 11) none (some (.t 13)))), ((some 15), (.mv (.t 1))), ((some 16), (.binS .eql (.t 14) (.t 15)))],
  .op (some 17) (.pick (.t 10) (.t 16) (.v (.lit (.bool false)))),
  .op (some 4) (.mv (.t 17))])
 .ret))
def rs40 : List RR := [.tmp 4]
def cut40 : Nat → Nat := fun id => 0
theorem k40 : (Tryd.f40.body.bind fun c => comp Tryd.prog Tryd.f40.ntmps cut40 c) = some r40 := by kernel_rfl
theorem by40 {W0 : World} {σ : List Blk} {args : List AV} {K : Cont} (hn : args.length ≤ 18) (h : rW Tryd.prog W0 σ.length r40 (initFr args) σ (finP W0 rs40 σ.length K)) : ACall Tryd.prog W0 40 args σ K :=
  ACall.introR mixed Tryd.func40 (by kernel_rfl) k40 (by kernel_rfl) hn h
def r41 : RC := (.seq (.reg [.op (some 2) (.mv (.v (.lit (.int .i64 (0)))))])
 (.seq (.reg [.op (some 3) (.mv (.v (.lit (.int .i64 (7)))))])
 (.seq (.seq (.reg [.op (some 4) (.mv (.v (.lit (.int .i64 (0)))))])
 (.block 0 (.loop (.seq (.seq (.reg [.op (some 5) (.mv (.t 4)),
  .op (some 6) (.mv (.t 0)),
  .op (some 7) (.lenS (.t 6)),
  .op (some 8) (.binI .lss (.t 5) (.t 7))])
 (.cond (.t 8)
 .skip
 (.exit 0)))
 (.seq (.block 1 (.reg [.op (some 11) (.mv (.t 3)),
  .op (some 12) (.binI .mul (.v (.lit (.int .i64 (41)))) (.t 11)),
  .op (some 13) (.mv (.t 0)),
  .op (some 14) (.mv (.t 4)),
  .op (some 15) (.idxS (.t 13) (.t 14)),
  .op (some 16) (.conv .i64 (.t 15)),
  .op (some 17) (.binI .add (.t 12) (.t 16)),
  .op (some 18) (.binI .add (.t 17) (.v (.lit (.int .i64 (1))))),
  .op (some 19) (.binI .rem (.t 18) (.v (.lit (.int .i64 (999979))))),
  .op (some 3) (.mv (.t 19))]))
 (.reg [.op (some 9) (.mv (.t 4)),
  .op (some 10) (.binI .add (.t 9) (.v (.lit (.int .i64 (1))))),
  .op (some 4) (.mv (.t 10))]))))))
 (.seq (.reg [.op (some 20) (.mv (.t 3)),
  .op (some 2) (.mv (.t 20))])
 .ret))))
def rs41 : List RR := [.tmp 2]
def cut41 : Nat → Nat := fun id => 0
theorem k41 : (Tryd.f41.body.bind fun c => comp Tryd.prog Tryd.f41.ntmps cut41 c) = some r41 := by kernel_rfl
theorem by41 {W0 : World} {σ : List Blk} {args : List AV} {K : Cont} (hn : args.length ≤ 21) (h : rW Tryd.prog W0 σ.length r41 (initFr args) σ (finP W0 rs41 σ.length K)) : ACall Tryd.prog W0 41 args σ K :=
  ACall.introR mixed Tryd.func41 (by kernel_rfl) k41 (by kernel_rfl) hn h
def r42 : RC := (.seq (.reg [.op (some 4) (.mv (.v (.lit (.int .i64 (0)))))])
 (.seq (.reg [.op (some 14) (.mv (.t 1)),
  .op (some 15) (.lenS (.t 14)),
  .op (some 5) (.mv (.t 15))])
 (.seq (.block 0 (.seq (.reg [.op (some 17) (.mv (.t 5)),
  .op (some 18) (.binI .eql (.t 17) (.v (.lit (.int .i64 (0))))),
  .op (some 19) (.mv (.t 18)),
  .grp 19 false [((some 20), (.mv (.t 1))), ((some 21), (.mv (.t 0))), ((some 22), (.binS .eql (.t 20) (.t 21)))],
  .op (some 23) (.pick (.t 19) (.v (.lit (.bool true))) (.t 22)),
  .op (some 16) (.mv (.t 23))])
 (.cond (.t 16)
 (.seq (.reg [.op (some 4) (.mv (.v (.lit (.int .i64 (0)))))])
 .ret)
 (.seq (.reg [.op (some 25) (.mv (.t 5)),
  .op (some 26) (.binI .eql (.t 25) (.v (.lit (.int .i64 (1))))),
  .op (some 24) (.mv (.t 26))])
 (.cond (.t 24)
 (.seq (.reg [.op (some 27) (.mv (.t 0)),
  .op (some 28) (.mv (.t 1)),
  .op (some 29) (.idxS (.t 28) (.v (.lit (.int .i64 (0))))),
  .op (some 30) (.call (.v (.lit (.func (.func 48) #[] #[]))) [(.t 27), (.t 29)]),
  .op (some 4) (.mv (.t 30))])
 .ret)
 (.seq (.reg [.op (some 32) (.mv (.t 5)),
  .op (some 33) (.mv (.t 0)),
  .op (some 34) (.lenS (.t 33)),
  .op (some 35) (.binI .geq (.t 32) (.t 34)),
  .op (some 31) (.mv (.t 35))])
 (.cond (.t 31)
 (.seq (.reg [.op (some 4) (.mv (.v (.lit (.int .i64 (-1)))))])
 .ret)
 (.seq (.reg [.op (some 37) (.mv (.t 5)),
  .op (some 38) (.load 1 false (.v (.lit (.pointer (some ⟨0, 0, none⟩))))),
  .op (some 39) (.binI .leq (.t 37) (.t 38)),
  .op (some 40) (.mv (.t 39)),
  .grp 40 true [((some 41), (.mv (.t 0))), ((some 42), (.lenS (.t 41))), ((some 43), (.binI .leq (.t 42) (.v (.lit (.int .i64 (64))))))],
  .op (some 44) (.pick (.t 40) (.t 43) (.v (.lit (.bool false)))),
  .op (some 36) (.mv (.t 44))])
 (.cond (.t 36)
 (.seq (.reg [.op (some 45) (.mv (.t 0)),
  .op (some 46) (.mv (.t 1)),
  .op (some 47) (.call (.v (.lit (.func (.func 49) #[] #[]))) [(.t 45), (.t 46)]),
  .op (some 4) (.mv (.t 47))])
 .ret)
 .skip)))))))))
 (.seq (.reg [.op (some 48) (.mv (.t 1)),
  .op (some 49) (.idxS (.t 48) (.v (.lit (.int .i64 (0))))),
  .op (some 6) (.mv (.t 49))])
 (.seq (.reg [.op (some 50) (.mv (.t 1)),
  .op (some 51) (.idxS (.t 50) (.v (.lit (.int .i64 (1))))),
  .op (some 7) (.mv (.t 51))])
 (.seq (.reg [.op (some 8) (.mv (.v (.lit (.int .i64 (0)))))])
 (.seq (.reg [.op (some 52) (.mv (.t 0)),
  .op (some 53) (.lenS (.t 52)),
  .op (some 54) (.mv (.t 5)),
  .op (some 55) (.binI .sub (.t 53) (.t 54)),
  .op (some 56) (.binI .add (.t 55) (.v (.lit (.int .i64 (1))))),
  .op (some 9) (.mv (.t 56))])
 (.seq (.reg [.op (some 10) (.mv (.v (.lit (.int .i64 (0)))))])
 (.seq (.block 1 (.loop (.seq (.seq (.reg [.op (some 57) (.mv (.t 8)),
  .op (some 58) (.mv (.t 9)),
  .op (some 59) (.binI .lss (.t 57) (.t 58))])
 (.cond (.t 59)
 .skip
 (.exit 1)))
 (.block 2 (.seq (.seq (.reg [.op (some 60) (.mv (.t 0)),
  .op (some 61) (.mv (.t 8)),
  .op (some 62) (.idxS (.t 60) (.t 61)),
  .op (some 63) (.mv (.t 6)),
  .op (some 64) (.binI .neq (.t 62) (.t 63))])
 (.cond (.t 64)
 (.seq (.reg [.op (some 65) (.mv (.t 0)),
  .op (some 66) (.mv (.t 8)),
  .op (some 67) (.binI .add (.t 66) (.v (.lit (.int .i64 (1))))),
  .op (some 68) (.mv (.t 9)),
  .op (some 69) (.sliceS (.t 65) (some (.t 67)) (some (.t 68))),
  .op (some 70) (.mv (.t 6)),
  .op (some 71) (.call (.v (.lit (.func (.func 48) #[] #[]))) [(.t 69), (.t 70)]),
  .op (some 11) (.mv (.t 71))])
 (.seq (.seq (.reg [.op (some 72) (.mv (.t 11)),
  .op (some 73) (.binI .lss (.t 72) (.v (.lit (.int .i64 (0)))))])
 (.cond (.t 73)
 (.seq (.reg [.op (some 4) (.mv (.v (.lit (.int .i64 (-1)))))])
 .ret)
 .skip))
 (.reg [.op (some 74) (.mv (.t 8)),
  .op (some 75) (.mv (.t 11)),
  .op (some 76) (.binI .add (.t 75) (.v (.lit (.int .i64 (1))))),
  .op (some 77) (.binI .add (.t 74) (.t 76)),
  .op (some 8) (.mv (.t 77))])))
 .skip))
 (.seq (.seq (.reg [.op (some 78) (.mv (.t 0)),
  .op (some 79) (.mv (.t 8)),
  .op (some 80) (.binI .add (.t 79) (.v (.lit (.int .i64 (1))))),
  .op (some 81) (.idxS (.t 78) (.t 80)),
  .op (some 82) (.mv (.t 7)),
  .op (some 83) (.binI .eql (.t 81) (.t 82)),
  .op (some 84) (.mv (.t 83)),
  .grp 84 true [((some 85), (.mv (.t 0))), ((some 86), (.mv (.t 8))), ((some 87), (.mv (.t 8))), ((some 88), (.mv (.t 5))), ((some 89), (.binI .add (.t 87) (.t 88))), ((some 90), (.sliceS (.t 85) (some (.t 86)) (some (.t 89)))), ((some 91), (.mv (.t 1))), ((some 92), (.binS .eql (.t 90) (.t 91)))],
  .op (some 93) (.pick (.t 84) (.t 92) (.v (.lit (.bool false))))])
 (.cond (.t 93)
 (.seq (.reg [.op (some 94) (.mv (.t 8)),
  .op (some 4) (.mv (.t 94))])
 .ret)
 .skip))
 (.seq (.reg [.op (some 95) (.mv (.t 8)),
  .op (some 96) (.binI .add (.t 95) (.v (.lit (.int .i64 (1))))),
  .op (some 8) (.mv (.t 96))])
 (.seq (.reg [.op (some 97) (.mv (.t 10)),
  .op (some 98) (.binI .add (.t 97) (.v (.lit (.int .i64 (1))))),
  .op (some 10) (.mv (.t 98))])
 (.seq (.reg [.op (some 99) (.mv (.t 5)),
  .op (some 100) (.load 1 false (.v (.lit (.pointer (some ⟨0, 0, none⟩))))),
  .op (some 101) (.binI .leq (.t 99) (.t 100)),
  .op (some 102) (.mv (.t 101)),
  .grp 102 true [((some 103), (.mv (.t 10))), ((some 104), (.mv (.t 8))), ((some 105), (.call (.v (.lit (.func (.func 50) #[] #[]))) [(.t 104)])), ((some 106), (.binI .gtr (.t 103) (.t 105)))],
  .op (some 107) (.pick (.t 102) (.t 106) (.v (.lit (.bool false))))])
 (.cond (.t 107)
 (.seq (.reg [.op (some 108) (.mv (.t 0)),
  .op (some 109) (.mv (.t 8)),
  .op (some 110) (.sliceS (.t 108) (some (.t 109)) none),
  .op (some 111) (.mv (.t 1)),
  .op (some 112) (.call (.v (.lit (.func (.func 49) #[] #[]))) [(.t 110), (.t 111)]),
  .op (some 12) (.mv (.t 112))])
 (.seq (.seq (.reg [.op (some 113) (.mv (.t 12)),
  .op (some 114) (.binI .geq (.t 113) (.v (.lit (.int .i64 (0)))))])
 (.cond (.t 114)
 (.seq (.reg [.op (some 115) (.mv (.t 12)),
  .op (some 116) (.mv (.t 8)),
  .op (some 117) (.binI .add (.t 115) (.t 116)),
  .op (some 4) (.mv (.t 117))])
 .ret)
 .skip))
 (.seq (.reg [.op (some 4) (.mv (.v (.lit (.int .i64 (-1)))))])
 .ret)))
 (.seq (.reg [.op (some 118) (.mv (.t 5)),
  .op (some 119) (.load 1 false (.v (.lit (.pointer (some ⟨0, 0, none⟩))))),
  .op (some 120) (.binI .gtr (.t 118) (.t 119)),
  .op (some 121) (.mv (.t 120)),
  .grp 121 true [((some 122), (.mv (.t 10))), ((some 123), (.mv (.t 8))), ((some 124), (.binI .shr (.t 123) (.v (.lit (.int .u64 (4)))))), ((some 125), (.binI .add (.v (.lit (.int .i64 (4)))) (.t 124))), ((some 126), (.binI .geq (.t 122) (.t 125)))],
  .op (some 127) (.pick (.t 121) (.t 126) (.v (.lit (.bool false)))),
  .op (some 128) (.mv (.t 127)),
  .grp 128 true [((some 129), (.mv (.t 8))), ((some 130), (.mv (.t 9))), ((some 131), (.binI .lss (.t 129) (.t 130)))],
  .op (some 132) (.pick (.t 128) (.t 131) (.v (.lit (.bool false))))])
 (.cond (.t 132)
 (.seq (.reg [.op (some 133) (.mv (.t 0)),
  .op (some 134) (.mv (.t 8)),
  .op (some 135) (.sliceS (.t 133) (some (.t 134)) none),
  .op (some 136) (.mv (.t 1)),
  .op (some 137) (.call (.v (.lit (.func (.func 51) #[] #[]))) [(.t 135), (.t 136)]),
  .op (some 13) (.mv (.t 137))])
 (.seq (.seq (.reg [.op (some 138) (.mv (.t 13)),
  .op (some 139) (.binI .lss (.t 138) (.v (.lit (.int .i64 (0)))))])
 (.cond (.t 139)
 (.seq (.reg [.op (some 4) (.mv (.v (.lit (.int .i64 (-1)))))])
 .ret)
 .skip))
 (.seq (.reg [.op (some 140) (.mv (.t 8)),
  .op (some 141) (.mv (.t 13)),
  .op (some 142) (.binI .add (.t 140) (.t 141)),
  .op (some 4) (.mv (.t 142))])
 .ret)))
 .skip))))))))))))
 (.seq (.reg [.op (some 4) (.mv (.v (.lit (.int .i64 (-1)))))])
 .ret))))))))))
def rs42 : List RR := [.tmp 4]
def cut42 : Nat → Nat := fun id => 0
theorem k42 : (Tryd.f42.body.bind fun c => comp Tryd.prog Tryd.f42.ntmps cut42 c) = some r42 := by kernel_rfl
theorem by42 {W0 : World} {σ : List Blk} {args : List AV} {K : Cont} (hn : args.length ≤ 143) (h : rW Tryd.prog W0 σ.length r42 (initFr args) σ (finP W0 rs42 σ.length K)) : ACall Tryd.prog W0 42 args σ K :=
  ACall.introR mixed Tryd.func42 (by kernel_rfl) k42 (by kernel_rfl) hn h
def r43 : RC := (.seq (.reg [.op (some 4) (.mv (.v (.lit (.bool false))))])
 (.seq (.reg [.op (some 5) (.mv (.t 0)),
  .op (some 6) (.mv (.t 1)),
  .op (some 7) (.call (.v (.lit (.func (.func 52) #[] #[]))) [(.t 5), (.t 6)]),
  .op (some 8) (.binI .geq (.t 7) (.v (.lit (.int .i64 (0))))),
  .op (some 4) (.mv (.t 8))])
 .ret))
def rs43 : List RR := [.tmp 4]
def cut43 : Nat → Nat := fun id => 0
theorem k43 : (Tryd.f43.body.bind fun c => comp Tryd.prog Tryd.f43.ntmps cut43 c) = some r43 := by kernel_rfl
theorem by43 {W0 : World} {σ : List Blk} {args : List AV} {K : Cont} (hn : args.length ≤ 9) (h : rW Tryd.prog W0 σ.length r43 (initFr args) σ (finP W0 rs43 σ.length K)) : ACall Tryd.prog W0 43 args σ K :=
  ACall.introR mixed Tryd.func43 (by kernel_rfl) k43 (by kernel_rfl) hn h
def r44 : RC := (.seq (.reg [.op (some 2) (.mv (.v (.lit (.int .i64 (0)))))])
 (.seq (.reg [.op (some 3) (.mv (.v (.lit (.int .i64 (7)))))])
 (.seq (.seq (.reg [.op (some 5) (.mv (.t 0)),
  .op (some 6) (.lenS (.t 5)),
  .op (some 7) (.mv (.v (.lit (.int .i64 (0)))))])
 (.block 0 (.loop (.seq (.reg [.op (some 8) (.binI .lss (.t 7) (.t 6))])
 (.seq (.cond (.t 8)
 .skip
 (.exit 0))
 (.seq (.block 1 (.seq (.reg [.op (some 9) (.mv (.t 7)),
  .op (some 4) (.mv (.t 9))])
 (.reg [.op (some 10) (.mv (.t 3)),
  .op (some 11) (.binI .mul (.v (.lit (.int .i64 (41)))) (.t 10)),
  .op (some 12) (.mv (.t 0)),
  .op (some 13) (.mv (.t 4)),
  .op (some 14) (.idxS (.t 12) (.t 13)),
  .op (some 15) (.conv .i64 (.t 14)),
  .op (some 16) (.binI .add (.t 11) (.t 15)),
  .op (some 17) (.binI .add (.t 16) (.v (.lit (.int .i64 (1))))),
  .op (some 18) (.binI .rem (.t 17) (.v (.lit (.int .i64 (999979))))),
  .op (some 3) (.mv (.t 18))])))
 (.reg [.op (some 19) (.binI .add (.t 7) (.v (.lit (.int .i64 (1))))),
  .op (some 7) (.mv (.t 19))])))))))
 (.seq (.reg [.op (some 20) (.mv (.t 3)),
  .op (some 2) (.mv (.t 20))])
 .ret))))
def rs44 : List RR := [.tmp 2]
def cut44 : Nat → Nat := fun id => 0
theorem k44 : (Tryd.f44.body.bind fun c => comp Tryd.prog Tryd.f44.ntmps cut44 c) = some r44 := by kernel_rfl
theorem by44 {W0 : World} {σ : List Blk} {args : List AV} {K : Cont} (hn : args.length ≤ 21) (h : rW Tryd.prog W0 σ.length r44 (initFr args) σ (finP W0 rs44 σ.length K)) : ACall Tryd.prog W0 44 args σ K :=
  ACall.introR mixed Tryd.func44 (by kernel_rfl) k44 (by kernel_rfl) hn h
def r45 : RC := (.seq (.reg [.op (some 2) (.mv (.v (.lit (.bool false))))])
 (.seq (.reg [.op (some 3) (.mv (.t 0)),
  .op (some 4) (.lenS (.t 3)),
  .op (some 5) (.binI .geq (.t 4) (.v (.lit (.int .i64 (1))))),
  .op (some 6) (.mv (.t 5)),
  .grp 6 true [((some 7), (.mv (.t 0))), ((some 8), (.lenS (.t 7))), ((some 9), (.binI .leq (.t 8) (.v (.lit (.int .i64 (160))))))],
  .op (some 10) (.pick (.t 6) (.t 9) (.v (.lit (.bool false)))),
  .op (some 11) (.mv (.t 10)),
  .grp 11 true [((some 12), (.mv (.t 0))), ((some 13), (.call (.v (.lit (.func (.func 46) #[] #[]))) [(.t 12)]))],
  .op (some 14) (.pick (.t 11) (.t 13) (.v (.lit (.bool false)))),
  .op (some 15) (.mv (.t 14)),
  .grp 15 true [((some 16), (.mv (.t 0))), ((some 17), (.call (.v (.lit (.func (.func 43) #[] #[]))) [(.t 16), (.v (.lit (.string ⟨#[64]⟩)))])), ((some 18), (.un .not (.t 17)))],
  .op (some 19) (.pick (.t 15) (.t 18) (.v (.lit (.bool false)))),
  .op (some 2) (.mv (.t 19))])
 .ret))
def rs45 : List RR := [.tmp 2]
def cut45 : Nat → Nat := fun id => 0
theorem k45 : (Tryd.f45.body.bind fun c => comp Tryd.prog Tryd.f45.ntmps cut45 c) = some r45 := by kernel_rfl
theorem by45 {W0 : World} {σ : List Blk} {args : List AV} {K : Cont} (hn : args.length ≤ 20) (h : rW Tryd.prog W0 σ.length r45 (initFr args) σ (finP W0 rs45 σ.length K)) : ACall Tryd.prog W0 45 args σ K :=
  ACall.introR mixed Tryd.func45 (by kernel_rfl) k45 (by kernel_rfl) hn h
def r46 : RC := (.seq (.reg [.op (some 2) (.mv (.v (.lit (.bool false))))])
 (.seq (.seq (.reg [.op (some 4) (.mv (.t 0)),
  .op (some 5) (.lenS (.t 4)),
  .op (some 6) (.mv (.v (.lit (.int .i64 (0)))))])
 (.block 0 (.loop (.seq (.reg [.op (some 7) (.binI .lss (.t 6) (.t 5))])
 (.seq (.cond (.t 7)
 .skip
 (.exit 0))
 (.seq (.block 1 (.seq (.reg [.op (some 8) (.mv (.t 6)),
  .op (some 3) (.mv (.t 8))])
 (.seq (.reg [.op (some 9) (.mv (.t 0)),
  .op (some 10) (.mv (.t 3)),
  .op (some 11) (.idxS (.t 9) (.t 10)),
  .op (some 12) (.binI .lss (.t 11) (.v (.lit (.int .u8 (32))))),
  .op (some 13) (.mv (.t 12)),
  .grp 13 false [((some 14), (.mv (.t 0))), ((some 15), (.mv (.t 3))), ((some 16), (.idxS (.t 14) (.t 15))), ((some 17), (.binI .gtr (.t 16) (.v (.lit (.int .u8 (126))))))],
  .op (some 18) (.pick (.t 13) (.v (.lit (.bool true))) (.t 17)),
  .op (some 19) (.mv (.t 18)),
  .grp 19 false [((some 20), (.mv (.t 0))), ((some 21), (.mv (.t 3))), ((some 22), (.idxS (.t 20) (.t 21))), ((some 23), (.binI .eql (.t 22) (.v (.lit (.int .u8 (35))))))],
  .op (some 24) (.pick (.t 19) (.v (.lit (.bool true))) (.t 23))])
 (.cond (.t 24)
 (.seq (.reg [.op (some 2) (.mv (.v (.lit (.bool false))))])
 .ret)
 .skip))))
 (.reg [.op (some 25) (.binI .add (.t 6) (.v (.lit (.int .i64 (1))))),
  .op (some 6) (.mv (.t 25))])))))))
 (.seq (.reg [.op (some 2) (.mv (.v (.lit (.bool true))))])
 .ret)))
def rs46 : List RR := [.tmp 2]
def cut46 : Nat → Nat := fun id => 0
theorem k46 : (Tryd.f46.body.bind fun c => comp Tryd.prog Tryd.f46.ntmps cut46 c) = some r46 := by kernel_rfl
theorem by46 {W0 : World} {σ : List Blk} {args : List AV} {K : Cont} (hn : args.length ≤ 26) (h : rW Tryd.prog W0 σ.length r46 (initFr args) σ (finP W0 rs46 σ.length K)) : ACall Tryd.prog W0 46 args σ K :=
  ACall.introR mixed Tryd.func46 (by kernel_rfl) k46 (by kernel_rfl) hn h
def r47 : RC := (.seq (.reg [.op (some 2) (.mv (.v (.lit (.string ⟨#[]⟩))))])
 (.seq (.reg [.op (some 3) (.mv (.t 0)),
  .op (some 4) (.call (.v (.lit (.func (.func 53) #[] #[]))) [(.t 3), (.v (.lit (.int .i64 (10))))]),
  .op (some 2) (.mv (.t 4))])
 .ret))
def rs47 : List RR := [.tmp 2]
def cut47 : Nat → Nat := fun id => 0
theorem k47 : (Tryd.f47.body.bind fun c => comp Tryd.prog Tryd.f47.ntmps cut47 c) = some r47 := by kernel_rfl
theorem by47 {W0 : World} {σ : List Blk} {args : List AV} {K : Cont} (hn : args.length ≤ 5) (h : rW Tryd.prog W0 σ.length r47 (initFr args) σ (finP W0 rs47 σ.length K)) : ACall Tryd.prog W0 47 args σ K :=
  ACall.introR mixed Tryd.func47 (by kernel_rfl) k47 (by kernel_rfl) hn h
def r48 : RC := (.seq (.reg [.op (some 4) (.mv (.v (.lit (.int .i64 (0)))))])
 (.seq (.reg [.op (some 5) (.mv (.t 0)),
  .op (some 6) (.mv (.t 1)),
  .op (some 7) (.call (.v (.lit (.func (.func 54) #[] #[]))) [(.t 5), (.t 6)]),
  .op (some 4) (.mv (.t 7))])
 .ret))
def rs48 : List RR := [.tmp 4]
def cut48 : Nat → Nat := fun id => 0
theorem k48 : (Tryd.f48.body.bind fun c => comp Tryd.prog Tryd.f48.ntmps cut48 c) = some r48 := by kernel_rfl
theorem by48 {W0 : World} {σ : List Blk} {args : List AV} {K : Cont} (hn : args.length ≤ 8) (h : rW Tryd.prog W0 σ.length r48 (initFr args) σ (finP W0 rs48 σ.length K)) : ACall Tryd.prog W0 48 args σ K :=
  ACall.introR mixed Tryd.func48 (by kernel_rfl) k48 (by kernel_rfl) hn h
def r50 : RC := (.seq (.reg [.op (some 2) (.mv (.v (.lit (.int .i64 (0)))))])
 (.seq (.reg [.op (some 3) (.mv (.t 0)),
  .op (some 4) (.binI .add (.t 3) (.v (.lit (.int .i64 (16))))),
  .op (some 5) (.binI .quo (.t 4) (.v (.lit (.int .i64 (8))))),
  .op (some 2) (.mv (.t 5))])
 .ret))
def rs50 : List RR := [.tmp 2]
def cut50 : Nat → Nat := fun id => 0
theorem k50 : (Tryd.f50.body.bind fun c => comp Tryd.prog Tryd.f50.ntmps cut50 c) = some r50 := by kernel_rfl
theorem by50 {W0 : World} {σ : List Blk} {args : List AV} {K : Cont} (hn : args.length ≤ 6) (h : rW Tryd.prog W0 σ.length r50 (initFr args) σ (finP W0 rs50 σ.length K)) : ACall Tryd.prog W0 50 args σ K :=
  ACall.introR mixed Tryd.func50 (by kernel_rfl) k50 (by kernel_rfl) hn h
def r51 : RC := (.seq (.reg [.op (some 4) (.mv (.v (.lit (.int .i64 (0)))))])
 (.seq (.reg [.op (some 12) (.mv (.t 1)),
  .op (some 13) (.call (.v (.lit (.func (.func 55) #[] #[]))) [(.t 12)]),
  .op (some 11) (.mv (.t 13)),
  .op (some 14) (.ext (.t 11) 0),
  .op (some 15) (.ext (.t 11) 1),
  .op (some 5) (.mv (.t 14)),
  .op (some 6) (.mv (.t 15))])
 (.seq (.reg [.op (some 16) (.mv (.t 1)),
  .op (some 17) (.lenS (.t 16)),
  .op (some 7) (.mv (.t 17))])
 (.seq (.reg [.op (some 8) (.mv (.v (.lit (.int .u32 (0)))))])
 (.seq (.seq (.reg [.op (some 9) (.mv (.v (.lit (.int .i64 (0)))))])
 (.block 0 (.loop (.seq (.seq (.reg [.op (some 18) (.mv (.t 9)),
  .op (some 19) (.mv (.t 7)),
  .op (some 20) (.binI .lss (.t 18) (.t 19))])
 (.cond (.t 20)
 .skip
 (.exit 0)))
 (.seq (.block 1 (.reg [.op (some 23) (.mv (.t 8)),
  .op (some 24) (.binI .mul (.t 23) (.v (.lit (.int .u32 (16777619))))),
  .op (some 25) (.mv (.t 0)),
  .op (some 26) (.mv (.t 9)),
  .op (some 27) (.idxS (.t 25) (.t 26)),
  .op (some 28) (.conv .u32 (.t 27)),
  .op (some 29) (.binI .add (.t 24) (.t 28)),
  .op (some 8) (.mv (.t 29))]))
 (.reg [.op (some 21) (.mv (.t 9)),
  .op (some 22) (.binI .add (.t 21) (.v (.lit (.int .i64 (1))))),
  .op (some 9) (.mv (.t 22))]))))))
 (.seq (.seq (.reg [.op (some 30) (.mv (.t 8)),
  .op (some 31) (.mv (.t 5)),
  .op (some 32) (.binI .eql (.t 30) (.t 31)),
  .op (some 33) (.mv (.t 32)),
  .grp 33 true [((some 34), (.mv (.t 0))), ((some 35), (.mv (.t 7))), ((some 36), (.sliceS (.t 34) none (some (.t 35)))), ((some 37), (.mv (.t 1))), ((some 38), (.binS .eql (.t 36) (.t 37)))],
  .op (some 39) (.pick (.t 33) (.t 38) (.v (.lit (.bool false))))])
 (.cond (.t 39)
 (.seq (.reg [.op (some 4) (.mv (.v (.lit (.int .i64 (0)))))])
 .ret)
 .skip))
 (.seq (.seq (.reg [.op (some 40) (.mv (.t 7)),
  .op (some 10) (.mv (.t 40))])
 (.block 2 (.loop (.seq (.seq (.reg [.op (some 41) (.mv (.t 10)),
  .op (some 42) (.mv (.t 0)),
  .op (some 43) (.lenS (.t 42)),
  .op (some 44) (.binI .lss (.t 41) (.t 43))])
 (.cond (.t 44)
 .skip
 (.exit 2)))
 (.block 3 (.seq (.reg [.op (some 45) (.mv (.t 8)),
  .op (some 46) (.binI .mul (.t 45) (.v (.lit (.int .u32 (16777619))))),
  .op (some 8) (.mv (.t 46))])
 (.seq (.reg [.op (some 47) (.mv (.t 8)),
  .op (some 48) (.mv (.t 0)),
  .op (some 49) (.mv (.t 10)),
  .op (some 50) (.idxS (.t 48) (.t 49)),
  .op (some 51) (.conv .u32 (.t 50)),
  .op (some 52) (.binI .add (.t 47) (.t 51)),
  .op (some 8) (.mv (.t 52))])
 (.seq (.reg [.op (some 53) (.mv (.t 8)),
  .op (some 54) (.mv (.t 6)),
  .op (some 55) (.mv (.t 0)),
  .op (some 56) (.mv (.t 10)),
  .op (some 57) (.mv (.t 7)),
  .op (some 58) (.binI .sub (.t 56) (.t 57)),
  .op (some 59) (.idxS (.t 55) (.t 58)),
  .op (some 60) (.conv .u32 (.t 59)),
  .op (some 61) (.binI .mul (.t 54) (.t 60)),
  .op (some 62) (.binI .sub (.t 53) (.t 61)),
  .op (some 8) (.mv (.t 62))])
 (.seq (.reg [.op (some 63) (.mv (.t 10)),
  .op (some 64) (.binI .add (.t 63) (.v (.lit (.int .i64 (1))))),
  .op (some 10) (.mv (.t 64))])
 (.seq (.reg [.op (some 65) (.mv (.t 8)),
  .op (some 66) (.mv (.t 5)),
  .op (some 67) (.binI .eql (.t 65) (.t 66)),
  .op (some 68) (.mv (.t 67)),
  .grp 68 true [((some 69), (.mv (.t 0))), ((some 70), (.mv (.t 10))), ((some 71), (.mv (.t 7))), ((some 72), (.binI .sub (.t 70) (.t 71))), ((some 73), (.mv (.t 10))), ((some 74), (.sliceS (.t 69) (some (.t 72)) (some (.t 73)))), ((some 75), (.mv (.t 1))), ((some 76), (.binS .eql (.t 74) (.t 75)))],
  .op (some 77) (.pick (.t 68) (.t 76) (.v (.lit (.bool false))))])
 (.cond (.t 77)
 (.seq (.reg [.op (some 78) (.mv (.t 10)),
  .op (some 79) (.mv (.t 7)),
  .op (some 80) (.binI .sub (.t 78) (.t 79)),
  .op (some 4) (.mv (.t 80))])
 .ret)
 .skip)))))))))))
 (.seq (.reg [.op (some 4) (.mv (.v (.lit (.int .i64 (-1)))))])
 .ret))))))))
def rs51 : List RR := [.tmp 4]
def cut51 : Nat → Nat := fun id => 0
theorem k51 : (Tryd.f51.body.bind fun c => comp Tryd.prog Tryd.f51.ntmps cut51 c) = some r51 := by kernel_rfl
theorem by51 {W0 : World} {σ : List Blk} {args : List AV} {K : Cont} (hn : args.length ≤ 81) (h : rW Tryd.prog W0 σ.length r51 (initFr args) σ (finP W0 rs51 σ.length K)) : ACall Tryd.prog W0 51 args σ K :=
  ACall.introR mixed Tryd.func51 (by kernel_rfl) k51 (by kernel_rfl) hn h
def r52 : RC := (.seq (.reg [.op (some 4) (.mv (.v (.lit (.int .i64 (0)))))])
 (.seq (.reg [.op (some 5) (.mv (.t 0)),
  .op (some 6) (.mv (.t 1)),
  .op (some 7) (.call (.v (.lit (.func (.func 42) #[] #[]))) [(.t 5), (.t 6)]),
  .op (some 4) (.mv (.t 7))])
 .ret))
def rs52 : List RR := [.tmp 4]
def cut52 : Nat → Nat := fun id => 0
theorem k52 : (Tryd.f52.body.bind fun c => comp Tryd.prog Tryd.f52.ntmps cut52 c) = some r52 := by kernel_rfl
theorem by52 {W0 : World} {σ : List Blk} {args : List AV} {K : Cont} (hn : args.length ≤ 8) (h : rW Tryd.prog W0 σ.length r52 (initFr args) σ (finP W0 rs52 σ.length K)) : ACall Tryd.prog W0 52 args σ K :=
  ACall.introR mixed Tryd.func52 (by kernel_rfl) k52 (by kernel_rfl) hn h
def r53 : RC := (.seq (.reg [.op (some 4) (.mv (.v (.lit (.string ⟨#[]⟩))))])
 (.seq (.seq (.reg [.op (some 10) (.mv (.t 1)),
  .op (some 11) (.binI .eql (.t 10) (.v (.lit (.int .i64 (10)))))])
 (.cond (.t 11)
 (.seq (.seq (.reg [.op (some 12) (.mv (.t 0)),
  .op (some 13) (.binI .leq (.v (.lit (.int .i64 (0)))) (.t 12)),
  .op (some 14) (.mv (.t 13)),
  .grp 14 true [((some 15), (.mv (.t 0))), ((some 16), (.binI .lss (.t 15) (.v (.lit (.int .i64 (100))))))],
  .op (some 17) (.pick (.t 14) (.t 16) (.v (.lit (.bool false))))])
 (.cond (.t 17)
 (.seq (.reg [.op (some 18) (.mv (.t 0)),
  .op (some 19) (.call (.v (.lit (.func (.func 56) #[] #[]))) [(.t 18)]),
  .op (some 4) (.mv (.t 19))])
 .ret)
 .skip))
 (.seq (.reg [.op (some 5) (.alloc 76 (List.replicate 24 (.lit (.int .u8 (0)))))])
 (.seq (.reg [.op (some 20) (.mv (.t 0)),
  .op (some 21) (.conv .u64 (.t 20)),
  .op (some 6) (.mv (.t 21))])
 (.seq (.seq (.reg [.op (some 22) (.mv (.t 0)),
  .op (some 23) (.binI .lss (.t 22) (.v (.lit (.int .i64 (0)))))])
 (.cond (.t 23)
 (.reg [.op (some 24) (.mv (.t 6)),
  .op (some 25) (.un .neg (.t 24)),
  .op (some 6) (.mv (.t 25))])
 .skip))
 (.seq (.reg [.op (some 26) (.mv (.t 6)),
  .op (some 27) (.call (.v (.lit (.func (.func 57) #[] #[]))) [(.t 26)]),
  .op (some 7) (.mv (.t 27))])
 (.seq (.reg [.op (some 28) (.mv (.t 7)),
  .op (some 29) (.binI .add (.v (.lit (.int .i64 (1)))) (.t 28)),
  .op (some 30) (.sliceP 24 1 (.t 5) (some (.v (.lit (.int .i64 (1))))) (some (.t 29))),
  .op (some 31) (.mv (.t 6)),
  .op (some 32) (.call (.v (.lit (.func (.func 58) #[] #[]))) [(.t 30), (.t 31)])])
 (.seq (.seq (.reg [.op (some 33) (.mv (.t 0)),
  .op (some 34) (.binI .lss (.t 33) (.v (.lit (.int .i64 (0)))))])
 (.cond (.t 34)
 (.seq (.reg [.op (some 35) (.iaddrA 24 1 (.t 5) (.v (.lit (.int .i64 (0))))),
  .op none (.store 1 (.t 35) (.v (.lit (.int .u8 (45)))))])
 (.seq (.reg [.op (some 36) (.mv (.t 7)),
  .op (some 37) (.binI .add (.v (.lit (.int .i64 (1)))) (.t 36)),
  .op (some 38) (.sliceP 24 1 (.t 5) none (some (.t 37))),
  .op (some 39) (.strL (.t 38)),
  .op (some 4) (.mv (.t 39))])
 .ret))
 .skip))
 (.seq (.reg [.op (some 40) (.mv (.t 7)),
  .op (some 41) (.binI .add (.v (.lit (.int .i64 (1)))) (.t 40)),
  .op (some 42) (.sliceP 24 1 (.t 5) (some (.v (.lit (.int .i64 (1))))) (some (.t 41))),
  .op (some 43) (.strL (.t 42)),
  .op (some 4) (.mv (.t 43))])
 .ret))))))))
 .skip))
 (.seq (.reg [.op (some 45) (.mv (.t 0)),
  .op (some 46) (.conv .u64 (.t 45)),
  .op (some 47) (.mv (.t 1)),
  .op (some 48) (.mv (.t 0)),
  .op (some 49) (.binI .lss (.t 48) (.v (.lit (.int .i64 (0))))),
  .op (some 50) (.call (.v (.lit (.func (.func 59) #[] #[]))) [(.v (.lit (.slice none 0 0))), (.t 46), (.t 47), (.t 49), (.v (.lit (.bool false)))]),
  .op (some 44) (.mv (.t 50)),
  .op (some 51) (.ext (.t 44) 0),
  .op (some 52) (.ext (.t 44) 1),
  .op (some 8) (.mv (.t 51)),
  .op (some 9) (.mv (.t 52))])
 (.seq (.reg [.op (some 53) (.mv (.t 9)),
  .op (some 4) (.mv (.t 53))])
 .ret))))
def rs53 : List RR := [.tmp 4]
def cut53 : Nat → Nat := fun id => 0
theorem k53 : (Tryd.f53.body.bind fun c => comp Tryd.prog Tryd.f53.ntmps cut53 c) = some r53 := by kernel_rfl
theorem by53 {W0 : World} {σ : List Blk} {args : List AV} {K : Cont} (hn : args.length ≤ 54) (h : rW Tryd.prog W0 σ.length r53 (initFr args) σ (finP W0 rs53 σ.length K)) : ACall Tryd.prog W0 53 args σ K :=
  ACall.introR mixed Tryd.func53 (by kernel_rfl) k53 (by kernel_rfl) hn h
def r55 : RC := (.seq (.reg [.op (some 2) (.mv (.v (.lit (.int .u32 (0))))),
  .op (some 3) (.mv (.v (.lit (.int .u32 (0)))))])
 (.seq (.reg [.op (some 4) (.mv (.v (.lit (.int .u32 (0)))))])
 (.seq (.seq (.reg [.op (some 5) (.mv (.v (.lit (.int .i64 (0)))))])
 (.block 0 (.loop (.seq (.seq (.reg [.op (some 9) (.mv (.t 5)),
  .op (some 10) (.mv (.t 0)),
  .op (some 11) (.lenS (.t 10)),
  .op (some 12) (.binI .lss (.t 9) (.t 11))])
 (.cond (.t 12)
 .skip
 (.exit 0)))
 (.seq (.block 1 (.reg [.op (some 15) (.mv (.t 4)),
  .op (some 16) (.binI .mul (.t 15) (.v (.lit (.int .u32 (16777619))))),
  .op (some 17) (.mv (.t 0)),
  .op (some 18) (.mv (.t 5)),
  .op (some 19) (.idxS (.t 17) (.t 18)),
  .op (some 20) (.conv .u32 (.t 19)),
  .op (some 21) (.binI .add (.t 16) (.t 20)),
  .op (some 4) (.mv (.t 21))]))
 (.reg [.op (some 13) (.mv (.t 5)),
  .op (some 14) (.binI .add (.t 13) (.v (.lit (.int .i64 (1))))),
  .op (some 5) (.mv (.t 14))]))))))
 (.seq (.reg [.op (some 6) (.mv (.v (.lit (.int .u32 (1))))),
  .op (some 7) (.mv (.v (.lit (.int .u32 (16777619)))))])
 (.seq (.seq (.reg [.op (some 22) (.mv (.t 0)),
  .op (some 23) (.lenS (.t 22)),
  .op (some 8) (.mv (.t 23))])
 (.block 2 (.loop (.seq (.seq (.reg [.op (some 24) (.mv (.t 8)),
  .op (some 25) (.binI .gtr (.t 24) (.v (.lit (.int .i64 (0)))))])
 (.cond (.t 25)
 .skip
 (.exit 2)))
 (.seq (.block 3 (.seq (.seq (.reg [.op (some 28) (.mv (.t 8)),
  .op (some 29) (.binI .and (.t 28) (.v (.lit (.int .i64 (1))))),
  .op (some 30) (.binI .neq (.t 29) (.v (.lit (.int .i64 (0)))))])
 (.cond (.t 30)
 (.reg [.op (some 31) (.mv (.t 6)),
  .op (some 32) (.mv (.t 7)),
  .op (some 33) (.binI .mul (.t 31) (.t 32)),
  .op (some 6) (.mv (.t 33))])
 .skip))
 (.reg [.op (some 34) (.mv (.t 7)),
  .op (some 35) (.mv (.t 7)),
  .op (some 36) (.binI .mul (.t 34) (.t 35)),
  .op (some 7) (.mv (.t 36))])))
 (.reg [.op (some 26) (.mv (.t 8)),
  .op (some 27) (.binI .shr (.t 26) (.v (.lit (.int .u64 (1))))),
  .op (some 8) (.mv (.t 27))]))))))
 (.seq (.reg [.op (some 37) (.mv (.t 4)),
  .op (some 38) (.mv (.t 6)),
  .op (some 2) (.mv (.t 37)),
  .op (some 3) (.mv (.t 38))])
 .ret))))))
def rs55 : List RR := [.tmp 2, .tmp 3]
def cut55 : Nat → Nat := fun id => 0
theorem k55 : (Tryd.f55.body.bind fun c => comp Tryd.prog Tryd.f55.ntmps cut55 c) = some r55 := by kernel_rfl
theorem by55 {W0 : World} {σ : List Blk} {args : List AV} {K : Cont} (hn : args.length ≤ 39) (h : rW Tryd.prog W0 σ.length r55 (initFr args) σ (finP W0 rs55 σ.length K)) : ACall Tryd.prog W0 55 args σ K :=
  ACall.introR mixed Tryd.func55 (by kernel_rfl) k55 (by kernel_rfl) hn h
def r56 : RC := (.seq (.reg [.op (some 2) (.mv (.v (.lit (.string ⟨#[]⟩))))])
 (.seq (.seq (.reg [.op (some 3) (.mv (.t 0)),
  .op (some 4) (.binI .lss (.t 3) (.v (.lit (.int .i64 (10)))))])
 (.cond (.t 4)
 (.seq (.reg [.op (some 5) (.mv (.t 0)),
  .op (some 6) (.mv (.t 0)),
  .op (some 7) (.binI .add (.t 6) (.v (.lit (.int .i64 (1))))),
  .op (some 8) (.sliceS (.v (.lit (.string ⟨#[48, 49, 50, 51, 52, 53, 54, 55, 56, 57, 97, 98, 99, 100, 101, 102, 103, 104, 105, 106, 107, 108, 109, 110, 111, 112, 113, 114, 115, 116, 117, 118, 119, 120, 121, 122]⟩))) (some (.t 5)) (some (.t 7))),
  .op (some 2) (.mv (.t 8))])
 .ret)
 .skip))
 (.seq (.reg [.op (some 9) (.mv (.t 0)),
  .op (some 10) (.binI .mul (.t 9) (.v (.lit (.int .i64 (2))))),
  .op (some 11) (.mv (.t 0)),
  .op (some 12) (.binI .mul (.t 11) (.v (.lit (.int .i64 (2))))),
  .op (some 13) (.binI .add (.t 12) (.v (.lit (.int .i64 (2))))),
  .op (some 14) (.sliceS (.v (.lit (.string ⟨#[48, 48, 48, 49, 48, 50, 48, 51, 48, 52, 48, 53, 48, 54, 48, 55, 48, 56, 48, 57, 49, 48, 49, 49, 49, 50, 49, 51, 49, 52, 49, 53, 49, 54, 49, 55, 49, 56, 49, 57, 50, 48, 50, 49, 50, 50, 50, 51, 50, 52, 50, 53, 50, 54, 50, 55, 50, 56, 50, 57, 51, 48, 51, 49, 51, 50, 51, 51, 51, 52, 51, 53, 51, 54, 51, 55, 51, 56, 51, 57, 52, 48, 52, 49, 52, 50, 52, 51, 52, 52, 52, 53, 52, 54, 52, 55, 52, 56, 52, 57, 53, 48, 53, 49, 53, 50, 53, 51, 53, 52, 53, 53, 53, 54, 53, 55, 53, 56, 53, 57, 54, 48, 54, 49, 54, 50, 54, 51, 54, 52, 54, 53, 54, 54, 54, 55, 54, 56, 54, 57, 55, 48, 55, 49, 55, 50, 55, 51, 55, 52, 55, 53, 55, 54, 55, 55, 55, 56, 55, 57, 56, 48, 56, 49, 56, 50, 56, 51, 56, 52, 56, 53, 56, 54, 56, 55, 56, 56, 56, 57, 57, 48, 57, 49, 57, 50, 57, 51, 57, 52, 57, 53, 57, 54, 57, 55, 57, 56, 57, 57]⟩))) (some (.t 10)) (some (.t 13))),
  .op (some 2) (.mv (.t 14))])
 .ret)))
def rs56 : List RR := [.tmp 2]
def cut56 : Nat → Nat := fun id => 0
theorem k56 : (Tryd.f56.body.bind fun c => comp Tryd.prog Tryd.f56.ntmps cut56 c) = some r56 := by kernel_rfl
theorem by56 {W0 : World} {σ : List Blk} {args : List AV} {K : Cont} (hn : args.length ≤ 15) (h : rW Tryd.prog W0 σ.length r56 (initFr args) σ (finP W0 rs56 σ.length K)) : ACall Tryd.prog W0 56 args σ K :=
  ACall.introR mixed Tryd.func56 (by kernel_rfl) k56 (by kernel_rfl) hn h
def r57 : RC := (.seq (.reg [.op (some 2) (.mv (.v (.lit (.int .i64 (0)))))])
 (.seq (.reg [.op (some 4) (.mv (.t 0)),
  .op (some 5) (.call (.v (.lit (.func (.func 61) #[] #[]))) [(.t 4)]),
  .op (some 6) (.call (.v (.lit (.func (.func 60) #[] #[]))) [(.t 5)]),
  .op (some 3) (.mv (.t 6))])
 (.seq (.reg [.op (some 7) (.mv (.t 3)),
  .op (some 8) (.mv (.t 0)),
  .op (some 9) (.mv (.t 3)),
  .op (some 10) (.iaddrA 20 1 (.v (.lit (.pointer (some ⟨1, 0, none⟩)))) (.t 9)),
  .op (some 11) (.load 1 false (.t 10)),
  .op (some 12) (.binI .geq (.t 8) (.t 11)),
  .op (some 13) (.call (.v (.lit (.func (.func 62) #[] #[]))) [(.t 12)]),
  .op (some 14) (.binI .add (.t 7) (.t 13)),
  .op (some 2) (.mv (.t 14))])
 .ret)))
def rs57 : List RR := [.tmp 2]
def cut57 : Nat → Nat := fun id => 0
theorem k57 : (Tryd.f57.body.bind fun c => comp Tryd.prog Tryd.f57.ntmps cut57 c) = some r57 := by kernel_rfl
theorem by57 {W0 : World} {σ : List Blk} {args : List AV} {K : Cont} (hn : args.length ≤ 15) (h : rW Tryd.prog W0 σ.length r57 (initFr args) σ (finP W0 rs57 σ.length K)) : ACall Tryd.prog W0 57 args σ K :=
  ACall.introR mixed Tryd.func57 (by kernel_rfl) k57 (by kernel_rfl) hn h
def r58 : RC := (.seq (.reg [.op (some 17) (.mv (.t 0)),
  .op (some 18) (.lenL (.t 17)),
  .op (some 4) (.mv (.t 18))])
 (.seq (.block 0 (.loop (.seq (.seq (.reg [.op (some 19) (.mv (.t 4)),
  .op (some 20) (.binI .geq (.t 19) (.v (.lit (.int .i64 (8)))))])
 (.cond (.t 20)
 .skip
 (.exit 0)))
 (.block 1 (.seq (.reg [.op (some 21) (.mv (.t 1)),
  .op (some 22) (.binI .rem (.t 21) (.v (.lit (.int .u64 (100000000))))),
  .op (some 23) (.conv .u32 (.t 22)),
  .op (some 5) (.mv (.t 23))])
 (.seq (.reg [.op (some 24) (.mv (.t 1)),
  .op (some 25) (.binI .quo (.t 24) (.v (.lit (.int .u64 (100000000))))),
  .op (some 1) (.mv (.t 25))])
 (.seq (.reg [.op (some 26) (.mv (.t 5)),
  .op (some 27) (.binI .quo (.t 26) (.v (.lit (.int .u32 (10000))))),
  .op (some 28) (.mv (.t 5)),
  .op (some 29) (.binI .rem (.t 28) (.v (.lit (.int .u32 (10000))))),
  .op (some 6) (.mv (.t 27)),
  .op (some 7) (.mv (.t 29))])
 (.seq (.reg [.op (some 30) (.mv (.t 7)),
  .op (some 31) (.binI .quo (.t 30) (.v (.lit (.int .u32 (100))))),
  .op (some 32) (.binI .mul (.t 31) (.v (.lit (.int .u32 (2))))),
  .op (some 33) (.mv (.t 7)),
  .op (some 34) (.binI .rem (.t 33) (.v (.lit (.int .u32 (100))))),
  .op (some 35) (.binI .mul (.t 34) (.v (.lit (.int .u32 (2))))),
  .op (some 8) (.mv (.t 32)),
  .op (some 9) (.mv (.t 35))])
 (.seq (.reg [.op (some 36) (.mv (.t 6)),
  .op (some 37) (.binI .quo (.t 36) (.v (.lit (.int .u32 (100))))),
  .op (some 38) (.binI .mul (.t 37) (.v (.lit (.int .u32 (2))))),
  .op (some 39) (.mv (.t 6)),
  .op (some 40) (.binI .rem (.t 39) (.v (.lit (.int .u32 (100))))),
  .op (some 41) (.binI .mul (.t 40) (.v (.lit (.int .u32 (2))))),
  .op (some 10) (.mv (.t 38)),
  .op (some 11) (.mv (.t 41))])
 (.seq (.draw [((some 42), (.mv (.t 0))), ((some 43), (.mv (.t 4))), ((some 44), (.binI .sub (.t 43) (.v (.lit (.int .i64 (1)))))), ((some 45), (.mv (.t 0))), ((some 46), (.mv (.t 4))), ((some 47), (.binI .sub (.t 46) (.v (.lit (.int .i64 (2)))))), ((some 48), (.mv (.t 9))), ((some 49), (.binI .add (.t 48) (.v (.lit (.int .u32 (1)))))), ((some 50), (.idxS (.v (.lit (.string ⟨#[48, 48, 48, 49, 48, 50, 48, 51, 48, 52, 48, 53, 48, 54, 48, 55, 48, 56, 48, 57, 49, 48, 49, 49, 49, 50, 49, 51, 49, 52, 49, 53, 49, 54, 49, 55, 49, 56, 49, 57, 50, 48, 50, 49, 50, 50, 50, 51, 50, 52, 50, 53, 50, 54, 50, 55, 50, 56, 50, 57, 51, 48, 51, 49, 51, 50, 51, 51, 51, 52, 51, 53, 51, 54, 51, 55, 51, 56, 51, 57, 52, 48, 52, 49, 52, 50, 52, 51, 52, 52, 52, 53, 52, 54, 52, 55, 52, 56, 52, 57, 53, 48, 53, 49, 53, 50, 53, 51, 53, 52, 53, 53, 53, 54, 53, 55, 53, 56, 53, 57, 54, 48, 54, 49, 54, 50, 54, 51, 54, 52, 54, 53, 54, 54, 54, 55, 54, 56, 54, 57, 55, 48, 55, 49, 55, 50, 55, 51, 55, 52, 55, 53, 55, 54, 55, 55, 55, 56, 55, 57, 56, 48, 56, 49, 56, 50, 56, 51, 56, 52, 56, 53, 56, 54, 56, 55, 56, 56, 56, 57, 57, 48, 57, 49, 57, 50, 57, 51, 57, 52, 57, 53, 57, 54, 57, 55, 57, 56, 57, 57]⟩))) (.t 49))), ((some 51), (.mv (.t 9))), ((some 52), (.idxS (.v (.lit (.string ⟨#[48, 48, 48, 49, 48, 50, 48, 51, 48, 52, 48, 53, 48, 54, 48, 55, 48, 56, 48, 57, 49, 48, 49, 49, 49, 50, 49, 51, 49, 52, 49, 53, 49, 54, 49, 55, 49, 56, 49, 57, 50, 48, 50, 49, 50, 50, 50, 51, 50, 52, 50, 53, 50, 54, 50, 55, 50, 56, 50, 57, 51, 48, 51, 49, 51, 50, 51, 51, 51, 52, 51, 53, 51, 54, 51, 55, 51, 56, 51, 57, 52, 48, 52, 49, 52, 50, 52, 51, 52, 52, 52, 53, 52, 54, 52, 55, 52, 56, 52, 57, 53, 48, 53, 49, 53, 50, 53, 51, 53, 52, 53, 53, 53, 54, 53, 55, 53, 56, 53, 57, 54, 48, 54, 49, 54, 50, 54, 51, 54, 52, 54, 53, 54, 54, 54, 55, 54, 56, 54, 57, 55, 48, 55, 49, 55, 50, 55, 51, 55, 52, 55, 53, 55, 54, 55, 55, 55, 56, 55, 57, 56, 48, 56, 49, 56, 50, 56, 51, 56, 52, 56, 53, 56, 54, 56, 55, 56, 56, 56, 57, 57, 48, 57, 49, 57, 50, 57, 51, 57, 52, 57, 53, 57, 54, 57, 55, 57, 56, 57, 57]⟩))) (.t 51))), ((some 53), (.iaddrS 1 (.t 42) (.t 44)))] [(none, (.store 1 (.t 53) (.t 50))), ((some 54), (.iaddrS 1 (.t 45) (.t 47))), (none, (.store 1 (.t 54) (.t 52)))])
 (.seq (.draw [((some 55), (.mv (.t 0))), ((some 56), (.mv (.t 4))), ((some 57), (.binI .sub (.t 56) (.v (.lit (.int .i64 (3)))))), ((some 58), (.mv (.t 0))), ((some 59), (.mv (.t 4))), ((some 60), (.binI .sub (.t 59) (.v (.lit (.int .i64 (4)))))), ((some 61), (.mv (.t 8))), ((some 62), (.binI .add (.t 61) (.v (.lit (.int .u32 (1)))))), ((some 63), (.idxS (.v (.lit (.string ⟨#[48, 48, 48, 49, 48, 50, 48, 51, 48, 52, 48, 53, 48, 54, 48, 55, 48, 56, 48, 57, 49, 48, 49, 49, 49, 50, 49, 51, 49, 52, 49, 53, 49, 54, 49, 55, 49, 56, 49, 57, 50, 48, 50, 49, 50, 50, 50, 51, 50, 52, 50, 53, 50, 54, 50, 55, 50, 56, 50, 57, 51, 48, 51, 49, 51, 50, 51, 51, 51, 52, 51, 53, 51, 54, 51, 55, 51, 56, 51, 57, 52, 48, 52, 49, 52, 50, 52, 51, 52, 52, 52, 53, 52, 54, 52, 55, 52, 56, 52, 57, 53, 48, 53, 49, 53, 50, 53, 51, 53, 52, 53, 53, 53, 54, 53, 55, 53, 56, 53, 57, 54, 48, 54, 49, 54, 50, 54, 51, 54, 52, 54, 53, 54, 54, 54, 55, 54, 56, 54, 57, 55, 48, 55, 49, 55, 50, 55, 51, 55, 52, 55, 53, 55, 54, 55, 55, 55, 56, 55, 57, 56, 48, 56, 49, 56, 50, 56, 51, 56, 52, 56, 53, 56, 54, 56, 55, 56, 56, 56, 57, 57, 48, 57, 49, 57, 50, 57, 51, 57, 52, 57, 53, 57, 54, 57, 55, 57, 56, 57, 57]⟩))) (.t 62))), ((some 64), (.mv (.t 8))), ((some 65), (.idxS (.v (.lit (.string ⟨#[48, 48, 48, 49, 48, 50, 48, 51, 48, 52, 48, 53, 48, 54, 48, 55, 48, 56, 48, 57, 49, 48, 49, 49, 49, 50, 49, 51, 49, 52, 49, 53, 49, 54, 49, 55, 49, 56, 49, 57, 50, 48, 50, 49, 50, 50, 50, 51, 50, 52, 50, 53, 50, 54, 50, 55, 50, 56, 50, 57, 51, 48, 51, 49, 51, 50, 51, 51, 51, 52, 51, 53, 51, 54, 51, 55, 51, 56, 51, 57, 52, 48, 52, 49, 52, 50, 52, 51, 52, 52, 52, 53, 52, 54, 52, 55, 52, 56, 52, 57, 53, 48, 53, 49, 53, 50, 53, 51, 53, 52, 53, 53, 53, 54, 53, 55, 53, 56, 53, 57, 54, 48, 54, 49, 54, 50, 54, 51, 54, 52, 54, 53, 54, 54, 54, 55, 54, 56, 54, 57, 55, 48, 55, 49, 55, 50, 55, 51, 55, 52, 55, 53, 55, 54, 55, 55, 55, 56, 55, 57, 56, 48, 56, 49, 56, 50, 56, 51, 56, 52, 56, 53, 56, 54, 56, 55, 56, 56, 56, 57, 57, 48, 57, 49, 57, 50, 57, 51, 57, 52, 57, 53, 57, 54, 57, 55, 57, 56, 57, 57]⟩))) (.t 64))), ((some 66), (.iaddrS 1 (.t 55) (.t 57)))] [(none, (.store 1 (.t 66) (.t 63))), ((some 67), (.iaddrS 1 (.t 58) (.t 60))), (none, (.store 1 (.t 67) (.t 65)))])
 (.seq (.draw [((some 68), (.mv (.t 0))), ((some 69), (.mv (.t 4))), ((some 70), (.binI .sub (.t 69) (.v (.lit (.int .i64 (5)))))), ((some 71), (.mv (.t 0))), ((some 72), (.mv (.t 4))), ((some 73), (.binI .sub (.t 72) (.v (.lit (.int .i64 (6)))))), ((some 74), (.mv (.t 11))), ((some 75), (.binI .add (.t 74) (.v (.lit (.int .u32 (1)))))), ((some 76), (.idxS (.v (.lit (.string ⟨#[48, 48, 48, 49, 48, 50, 48, 51, 48, 52, 48, 53, 48, 54, 48, 55, 48, 56, 48, 57, 49, 48, 49, 49, 49, 50, 49, 51, 49, 52, 49, 53, 49, 54, 49, 55, 49, 56, 49, 57, 50, 48, 50, 49, 50, 50, 50, 51, 50, 52, 50, 53, 50, 54, 50, 55, 50, 56, 50, 57, 51, 48, 51, 49, 51, 50, 51, 51, 51, 52, 51, 53, 51, 54, 51, 55, 51, 56, 51, 57, 52, 48, 52, 49, 52, 50, 52, 51, 52, 52, 52, 53, 52, 54, 52, 55, 52, 56, 52, 57, 53, 48, 53, 49, 53, 50, 53, 51, 53, 52, 53, 53, 53, 54, 53, 55, 53, 56, 53, 57, 54, 48, 54, 49, 54, 50, 54, 51, 54, 52, 54, 53, 54, 54, 54, 55, 54, 56, 54, 57, 55, 48, 55, 49, 55, 50, 55, 51, 55, 52, 55, 53, 55, 54, 55, 55, 55, 56, 55, 57, 56, 48, 56, 49, 56, 50, 56, 51, 56, 52, 56, 53, 56, 54, 56, 55, 56, 56, 56, 57, 57, 48, 57, 49, 57, 50, 57, 51, 57, 52, 57, 53, 57, 54, 57, 55, 57, 56, 57, 57]⟩))) (.t 75))), ((some 77), (.mv (.t 11))), ((some 78), (.idxS (.v (.lit (.string ⟨#[48, 48, 48, 49, 48, 50, 48, 51, 48, 52, 48, 53, 48, 54, 48, 55, 48, 56, 48, 57, 49, 48, 49, 49, 49, 50, 49, 51, 49, 52, 49, 53, 49, 54, 49, 55, 49, 56, 49, 57, 50, 48, 50, 49, 50, 50, 50, 51, 50, 52, 50, 53, 50, 54, 50, 55, 50, 56, 50, 57, 51, 48, 51, 49, 51, 50, 51, 51, 51, 52, 51, 53, 51, 54, 51, 55, 51, 56, 51, 57, 52, 48, 52, 49, 52, 50, 52, 51, 52, 52, 52, 53, 52, 54, 52, 55, 52, 56, 52, 57, 53, 48, 53, 49, 53, 50, 53, 51, 53, 52, 53, 53, 53, 54, 53, 55, 53, 56, 53, 57, 54, 48, 54, 49, 54, 50, 54, 51, 54, 52, 54, 53, 54, 54, 54, 55, 54, 56, 54, 57, 55, 48, 55, 49, 55, 50, 55, 51, 55, 52, 55, 53, 55, 54, 55, 55, 55, 56, 55, 57, 56, 48, 56, 49, 56, 50, 56, 51, 56, 52, 56, 53, 56, 54, 56, 55, 56, 56, 56, 57, 57, 48, 57, 49, 57, 50, 57, 51, 57, 52, 57, 53, 57, 54, 57, 55, 57, 56, 57, 57]⟩))) (.t 77))), ((some 79), (.iaddrS 1 (.t 68) (.t 70)))] [(none, (.store 1 (.t 79) (.t 76))), ((some 80), (.iaddrS 1 (.t 71) (.t 73))), (none, (.store 1 (.t 80) (.t 78)))])
 (.seq (.draw [((some 81), (.mv (.t 0))), ((some 82), (.mv (.t 4))), ((some 83), (.binI .sub (.t 82) (.v (.lit (.int .i64 (7)))))), ((some 84), (.mv (.t 0))), ((some 85), (.mv (.t 4))), ((some 86), (.binI .sub (.t 85) (.v (.lit (.int .i64 (8)))))), ((some 87), (.mv (.t 10))), ((some 88), (.binI .add (.t 87) (.v (.lit (.int .u32 (1)))))), ((some 89), (.idxS (.v (.lit (.string ⟨#[48, 48, 48, 49, 48, 50, 48, 51, 48, 52, 48, 53, 48, 54, 48, 55, 48, 56, 48, 57, 49, 48, 49, 49, 49, 50, 49, 51, 49, 52, 49, 53, 49, 54, 49, 55, 49, 56, 49, 57, 50, 48, 50, 49, 50, 50, 50, 51, 50, 52, 50, 53, 50, 54, 50, 55, 50, 56, 50, 57, 51, 48, 51, 49, 51, 50, 51, 51, 51, 52, 51, 53, 51, 54, 51, 55, 51, 56, 51, 57, 52, 48, 52, 49, 52, 50, 52, 51, 52, 52, 52, 53, 52, 54, 52, 55, 52, 56, 52, 57, 53, 48, 53, 49, 53, 50, 53, 51, 53, 52, 53, 53, 53, 54, 53, 55, 53, 56, 53, 57, 54, 48, 54, 49, 54, 50, 54, 51, 54, 52, 54, 53, 54, 54, 54, 55, 54, 56, 54, 57, 55, 48, 55, 49, 55, 50, 55, 51, 55, 52, 55, 53, 55, 54, 55, 55, 55, 56, 55, 57, 56, 48, 56, 49, 56, 50, 56, 51, 56, 52, 56, 53, 56, 54, 56, 55, 56, 56, 56, 57, 57, 48, 57, 49, 57, 50, 57, 51, 57, 52, 57, 53, 57, 54, 57, 55, 57, 56, 57, 57]⟩))) (.t 88))), ((some 90), (.mv (.t 10))), ((some 91), (.idxS (.v (.lit (.string ⟨#[48, 48, 48, 49, 48, 50, 48, 51, 48, 52, 48, 53, 48, 54, 48, 55, 48, 56, 48, 57, 49, 48, 49, 49, 49, 50, 49, 51, 49, 52, 49, 53, 49, 54, 49, 55, 49, 56, 49, 57, 50, 48, 50, 49, 50, 50, 50, 51, 50, 52, 50, 53, 50, 54, 50, 55, 50, 56, 50, 57, 51, 48, 51, 49, 51, 50, 51, 51, 51, 52, 51, 53, 51, 54, 51, 55, 51, 56, 51, 57, 52, 48, 52, 49, 52, 50, 52, 51, 52, 52, 52, 53, 52, 54, 52, 55, 52, 56, 52, 57, 53, 48, 53, 49, 53, 50, 53, 51, 53, 52, 53, 53, 53, 54, 53, 55, 53, 56, 53, 57, 54, 48, 54, 49, 54, 50, 54, 51, 54, 52, 54, 53, 54, 54, 54, 55, 54, 56, 54, 57, 55, 48, 55, 49, 55, 50, 55, 51, 55, 52, 55, 53, 55, 54, 55, 55, 55, 56, 55, 57, 56, 48, 56, 49, 56, 50, 56, 51, 56, 52, 56, 53, 56, 54, 56, 55, 56, 56, 56, 57, 57, 48, 57, 49, 57, 50, 57, 51, 57, 52, 57, 53, 57, 54, 57, 55, 57, 56, 57, 57]⟩))) (.t 90))), ((some 92), (.iaddrS 1 (.t 81) (.t 83)))] [(none, (.store 1 (.t 92) (.t 89))), ((some 93), (.iaddrS 1 (.t 84) (.t 86))), (none, (.store 1 (.t 93) (.t 91)))])
 (.reg [.op (some 94) (.mv (.t 4)),
  .op (some 95) (.binI .sub (.t 94) (.v (.lit (.int .i64 (8))))),
  .op (some 4) (.mv (.t 95))]))))))))))))))
 (.seq (.reg [.op (some 96) (.mv (.t 1)),
  .op (some 97) (.conv .u32 (.t 96)),
  .op (some 12) (.mv (.t 97))])
 (.seq (.seq (.reg [.op (some 98) (.mv (.t 4)),
  .op (some 99) (.binI .geq (.t 98) (.v (.lit (.int .i64 (4)))))])
 (.cond (.t 99)
 (.seq (.reg [.op (some 100) (.mv (.t 12)),
  .op (some 101) (.binI .rem (.t 100) (.v (.lit (.int .u32 (10000))))),
  .op (some 13) (.mv (.t 101))])
 (.seq (.reg [.op (some 102) (.mv (.t 12)),
  .op (some 103) (.binI .quo (.t 102) (.v (.lit (.int .u32 (10000))))),
  .op (some 12) (.mv (.t 103))])
 (.seq (.reg [.op (some 104) (.mv (.t 13)),
  .op (some 105) (.binI .quo (.t 104) (.v (.lit (.int .u32 (100))))),
  .op (some 106) (.binI .mul (.t 105) (.v (.lit (.int .u32 (2))))),
  .op (some 107) (.mv (.t 13)),
  .op (some 108) (.binI .rem (.t 107) (.v (.lit (.int .u32 (100))))),
  .op (some 109) (.binI .mul (.t 108) (.v (.lit (.int .u32 (2))))),
  .op (some 14) (.mv (.t 106)),
  .op (some 15) (.mv (.t 109))])
 (.seq (.draw [((some 110), (.mv (.t 0))), ((some 111), (.mv (.t 4))), ((some 112), (.binI .sub (.t 111) (.v (.lit (.int .i64 (1)))))), ((some 113), (.mv (.t 0))), ((some 114), (.mv (.t 4))), ((some 115), (.binI .sub (.t 114) (.v (.lit (.int .i64 (2)))))), ((some 116), (.mv (.t 15))), ((some 117), (.binI .add (.t 116) (.v (.lit (.int .u32 (1)))))), ((some 118), (.idxS (.v (.lit (.string ⟨#[48, 48, 48, 49, 48, 50, 48, 51, 48, 52, 48, 53, 48, 54, 48, 55, 48, 56, 48, 57, 49, 48, 49, 49, 49, 50, 49, 51, 49, 52, 49, 53, 49, 54, 49, 55, 49, 56, 49, 57, 50, 48, 50, 49, 50, 50, 50, 51, 50, 52, 50, 53, 50, 54, 50, 55, 50, 56, 50, 57, 51, 48, 51, 49, 51, 50, 51, 51, 51, 52, 51, 53, 51, 54, 51, 55, 51, 56, 51, 57, 52, 48, 52, 49, 52, 50, 52, 51, 52, 52, 52, 53, 52, 54, 52, 55, 52, 56, 52, 57, 53, 48, 53, 49, 53, 50, 53, 51, 53, 52, 53, 53, 53, 54, 53, 55, 53, 56, 53, 57, 54, 48, 54, 49, 54, 50, 54, 51, 54, 52, 54, 53, 54, 54, 54, 55, 54, 56, 54, 57, 55, 48, 55, 49, 55, 50, 55, 51, 55, 52, 55, 53, 55, 54, 55, 55, 55, 56, 55, 57, 56, 48, 56, 49, 56, 50, 56, 51, 56, 52, 56, 53, 56, 54, 56, 55, 56, 56, 56, 57, 57, 48, 57, 49, 57, 50, 57, 51, 57, 52, 57, 53, 57, 54, 57, 55, 57, 56, 57, 57]⟩))) (.t 117))), ((some 119), (.mv (.t 15))), ((some 120), (.idxS (.v (.lit (.string ⟨#[48, 48, 48, 49, 48, 50, 48, 51, 48, 52, 48, 53, 48, 54, 48, 55, 48, 56, 48, 57, 49, 48, 49, 49, 49, 50, 49, 51, 49, 52, 49, 53, 49, 54, 49, 55, 49, 56, 49, 57, 50, 48, 50, 49, 50, 50, 50, 51, 50, 52, 50, 53, 50, 54, 50, 55, 50, 56, 50, 57, 51, 48, 51, 49, 51, 50, 51, 51, 51, 52, 51, 53, 51, 54, 51, 55, 51, 56, 51, 57, 52, 48, 52, 49, 52, 50, 52, 51, 52, 52, 52, 53, 52, 54, 52, 55, 52, 56, 52, 57, 53, 48, 53, 49, 53, 50, 53, 51, 53, 52, 53, 53, 53, 54, 53, 55, 53, 56, 53, 57, 54, 48, 54, 49, 54, 50, 54, 51, 54, 52, 54, 53, 54, 54, 54, 55, 54, 56, 54, 57, 55, 48, 55, 49, 55, 50, 55, 51, 55, 52, 55, 53, 55, 54, 55, 55, 55, 56, 55, 57, 56, 48, 56, 49, 56, 50, 56, 51, 56, 52, 56, 53, 56, 54, 56, 55, 56, 56, 56, 57, 57, 48, 57, 49, 57, 50, 57, 51, 57, 52, 57, 53, 57, 54, 57, 55, 57, 56, 57, 57]⟩))) (.t 119))), ((some 121), (.iaddrS 1 (.t 110) (.t 112)))] [(none, (.store 1 (.t 121) (.t 118))), ((some 122), (.iaddrS 1 (.t 113) (.t 115))), (none, (.store 1 (.t 122) (.t 120)))])
 (.seq (.draw [((some 123), (.mv (.t 0))), ((some 124), (.mv (.t 4))), ((some 125), (.binI .sub (.t 124) (.v (.lit (.int .i64 (3)))))), ((some 126), (.mv (.t 0))), ((some 127), (.mv (.t 4))), ((some 128), (.binI .sub (.t 127) (.v (.lit (.int .i64 (4)))))), ((some 129), (.mv (.t 14))), ((some 130), (.binI .add (.t 129) (.v (.lit (.int .u32 (1)))))), ((some 131), (.idxS (.v (.lit (.string ⟨#[48, 48, 48, 49, 48, 50, 48, 51, 48, 52, 48, 53, 48, 54, 48, 55, 48, 56, 48, 57, 49, 48, 49, 49, 49, 50, 49, 51, 49, 52, 49, 53, 49, 54, 49, 55, 49, 56, 49, 57, 50, 48, 50, 49, 50, 50, 50, 51, 50, 52, 50, 53, 50, 54, 50, 55, 50, 56, 50, 57, 51, 48, 51, 49, 51, 50, 51, 51, 51, 52, 51, 53, 51, 54, 51, 55, 51, 56, 51, 57, 52, 48, 52, 49, 52, 50, 52, 51, 52, 52, 52, 53, 52, 54, 52, 55, 52, 56, 52, 57, 53, 48, 53, 49, 53, 50, 53, 51, 53, 52, 53, 53, 53, 54, 53, 55, 53, 56, 53, 57, 54, 48, 54, 49, 54, 50, 54, 51, 54, 52, 54, 53, 54, 54, 54, 55, 54, 56, 54, 57, 55, 48, 55, 49, 55, 50, 55, 51, 55, 52, 55, 53, 55, 54, 55, 55, 55, 56, 55, 57, 56, 48, 56, 49, 56, 50, 56, 51, 56, 52, 56, 53, 56, 54, 56, 55, 56, 56, 56, 57, 57, 48, 57, 49, 57, 50, 57, 51, 57, 52, 57, 53, 57, 54, 57, 55, 57, 56, 57, 57]⟩))) (.t 130))), ((some 132), (.mv (.t 14))), ((some 133), (.idxS (.v (.lit (.string ⟨#[48, 48, 48, 49, 48, 50, 48, 51, 48, 52, 48, 53, 48, 54, 48, 55, 48, 56, 48, 57, 49, 48, 49, 49, 49, 50, 49, 51, 49, 52, 49, 53, 49, 54, 49, 55, 49, 56, 49, 57, 50, 48, 50, 49, 50, 50, 50, 51, 50, 52, 50, 53, 50, 54, 50, 55, 50, 56, 50, 57, 51, 48, 51, 49, 51, 50, 51, 51, 51, 52, 51, 53, 51, 54, 51, 55, 51, 56, 51, 57, 52, 48, 52, 49, 52, 50, 52, 51, 52, 52, 52, 53, 52, 54, 52, 55, 52, 56, 52, 57, 53, 48, 53, 49, 53, 50, 53, 51, 53, 52, 53, 53, 53, 54, 53, 55, 53, 56, 53, 57, 54, 48, 54, 49, 54, 50, 54, 51, 54, 52, 54, 53, 54, 54, 54, 55, 54, 56, 54, 57, 55, 48, 55, 49, 55, 50, 55, 51, 55, 52, 55, 53, 55, 54, 55, 55, 55, 56, 55, 57, 56, 48, 56, 49, 56, 50, 56, 51, 56, 52, 56, 53, 56, 54, 56, 55, 56, 56, 56, 57, 57, 48, 57, 49, 57, 50, 57, 51, 57, 52, 57, 53, 57, 54, 57, 55, 57, 56, 57, 57]⟩))) (.t 132))), ((some 134), (.iaddrS 1 (.t 123) (.t 125)))] [(none, (.store 1 (.t 134) (.t 131))), ((some 135), (.iaddrS 1 (.t 126) (.t 128))), (none, (.store 1 (.t 135) (.t 133)))])
 (.reg [.op (some 136) (.mv (.t 4)),
  .op (some 137) (.binI .sub (.t 136) (.v (.lit (.int .i64 (4))))),
  .op (some 4) (.mv (.t 137))]))))))
 .skip))
 (.seq (.seq (.reg [.op (some 138) (.mv (.t 4)),
  .op (some 139) (.binI .geq (.t 138) (.v (.lit (.int .i64 (2)))))])
 (.cond (.t 139)
 (.seq (.reg [.op (some 140) (.mv (.t 12)),
  .op (some 141) (.binI .rem (.t 140) (.v (.lit (.int .u32 (100))))),
  .op (some 142) (.binI .mul (.t 141) (.v (.lit (.int .u32 (2))))),
  .op (some 16) (.mv (.t 142))])
 (.seq (.reg [.op (some 143) (.mv (.t 12)),
  .op (some 144) (.binI .quo (.t 143) (.v (.lit (.int .u32 (100))))),
  .op (some 12) (.mv (.t 144))])
 (.seq (.draw [((some 145), (.mv (.t 0))), ((some 146), (.mv (.t 4))), ((some 147), (.binI .sub (.t 146) (.v (.lit (.int .i64 (1)))))), ((some 148), (.mv (.t 0))), ((some 149), (.mv (.t 4))), ((some 150), (.binI .sub (.t 149) (.v (.lit (.int .i64 (2)))))), ((some 151), (.mv (.t 16))), ((some 152), (.binI .add (.t 151) (.v (.lit (.int .u32 (1)))))), ((some 153), (.idxS (.v (.lit (.string ⟨#[48, 48, 48, 49, 48, 50, 48, 51, 48, 52, 48, 53, 48, 54, 48, 55, 48, 56, 48, 57, 49, 48, 49, 49, 49, 50, 49, 51, 49, 52, 49, 53, 49, 54, 49, 55, 49, 56, 49, 57, 50, 48, 50, 49, 50, 50, 50, 51, 50, 52, 50, 53, 50, 54, 50, 55, 50, 56, 50, 57, 51, 48, 51, 49, 51, 50, 51, 51, 51, 52, 51, 53, 51, 54, 51, 55, 51, 56, 51, 57, 52, 48, 52, 49, 52, 50, 52, 51, 52, 52, 52, 53, 52, 54, 52, 55, 52, 56, 52, 57, 53, 48, 53, 49, 53, 50, 53, 51, 53, 52, 53, 53, 53, 54, 53, 55, 53, 56, 53, 57, 54, 48, 54, 49, 54, 50, 54, 51, 54, 52, 54, 53, 54, 54, 54, 55, 54, 56, 54, 57, 55, 48, 55, 49, 55, 50, 55, 51, 55, 52, 55, 53, 55, 54, 55, 55, 55, 56, 55, 57, 56, 48, 56, 49, 56, 50, 56, 51, 56, 52, 56, 53, 56, 54, 56, 55, 56, 56, 56, 57, 57, 48, 57, 49, 57, 50, 57, 51, 57, 52, 57, 53, 57, 54, 57, 55, 57, 56, 57, 57]⟩))) (.t 152))), ((some 154), (.mv (.t 16))), ((some 155), (.idxS (.v (.lit (.string ⟨#[48, 48, 48, 49, 48, 50, 48, 51, 48, 52, 48, 53, 48, 54, 48, 55, 48, 56, 48, 57, 49, 48, 49, 49, 49, 50, 49, 51, 49, 52, 49, 53, 49, 54, 49, 55, 49, 56, 49, 57, 50, 48, 50, 49, 50, 50, 50, 51, 50, 52, 50, 53, 50, 54, 50, 55, 50, 56, 50, 57, 51, 48, 51, 49, 51, 50, 51, 51, 51, 52, 51, 53, 51, 54, 51, 55, 51, 56, 51, 57, 52, 48, 52, 49, 52, 50, 52, 51, 52, 52, 52, 53, 52, 54, 52, 55, 52, 56, 52, 57, 53, 48, 53, 49, 53, 50, 53, 51, 53, 52, 53, 53, 53, 54, 53, 55, 53, 56, 53, 57, 54, 48, 54, 49, 54, 50, 54, 51, 54, 52, 54, 53, 54, 54, 54, 55, 54, 56, 54, 57, 55, 48, 55, 49, 55, 50, 55, 51, 55, 52, 55, 53, 55, 54, 55, 55, 55, 56, 55, 57, 56, 48, 56, 49, 56, 50, 56, 51, 56, 52, 56, 53, 56, 54, 56, 55, 56, 56, 56, 57, 57, 48, 57, 49, 57, 50, 57, 51, 57, 52, 57, 53, 57, 54, 57, 55, 57, 56, 57, 57]⟩))) (.t 154))), ((some 156), (.iaddrS 1 (.t 145) (.t 147)))] [(none, (.store 1 (.t 156) (.t 153))), ((some 157), (.iaddrS 1 (.t 148) (.t 150))), (none, (.store 1 (.t 157) (.t 155)))])
 (.reg [.op (some 158) (.mv (.t 4)),
  .op (some 159) (.binI .sub (.t 158) (.v (.lit (.int .i64 (2))))),
  .op (some 4) (.mv (.t 159))]))))
 .skip))
 (.seq (.reg [.op (some 160) (.mv (.t 4)),
  .op (some 161) (.binI .gtr (.t 160) (.v (.lit (.int .i64 (0)))))])
 (.cond (.t 161)
 (.reg [.op (some 162) (.mv (.t 0)),
  .op (some 163) (.mv (.t 12)),
  .op (some 164) (.binI .add (.v (.lit (.int .u32 (48)))) (.t 163)),
  .op (some 165) (.conv .u8 (.t 164)),
  .op (some 166) (.iaddrS 1 (.t 162) (.v (.lit (.int .i64 (0))))),
  .op none (.store 1 (.t 166) (.t 165))])
 .skip)))))))
def rs58 : List RR := []
def cut58 : Nat → Nat := fun id => if id = 7 then 25 else if id = 8 then 25 else if id = 9 then 25 else if id = 10 then 25 else if id = 17 then 25 else if id = 18 then 25 else if id = 23 then 25 else 0
theorem k58 : (Tryd.f58.body.bind fun c => comp Tryd.prog Tryd.f58.ntmps cut58 c) = some r58 := by kernel_rfl
theorem by58 {W0 : World} {σ : List Blk} {args : List AV} {K : Cont} (hn : args.length ≤ 167) (h : rW Tryd.prog W0 σ.length r58 (initFr args) σ (finP W0 rs58 σ.length K)) : ACall Tryd.prog W0 58 args σ K :=
  ACall.introR mixed Tryd.func58 (by kernel_rfl) k58 (by kernel_rfl) hn h
def r60 : RC := (.seq (.reg [.op (some 2) (.mv (.v (.lit (.int .i64 (0)))))])
 (.seq (.reg [.op (some 3) (.mv (.t 0)),
  .op (some 4) (.binI .mul (.t 3) (.v (.lit (.int .i64 (78913))))),
  .op (some 5) (.binI .shr (.t 4) (.v (.lit (.int .u64 (18))))),
  .op (some 2) (.mv (.t 5))])
 .ret))
def rs60 : List RR := [.tmp 2]
def cut60 : Nat → Nat := fun id => 0
theorem k60 : (Tryd.f60.body.bind fun c => comp Tryd.prog Tryd.f60.ntmps cut60 c) = some r60 := by kernel_rfl
theorem by60 {W0 : World} {σ : List Blk} {args : List AV} {K : Cont} (hn : args.length ≤ 6) (h : rW Tryd.prog W0 σ.length r60 (initFr args) σ (finP W0 rs60 σ.length K)) : ACall Tryd.prog W0 60 args σ K :=
  ACall.introR mixed Tryd.func60 (by kernel_rfl) k60 (by kernel_rfl) hn h
def r61 : RC := (.seq (.reg [.op (some 2) (.mv (.v (.lit (.int .i64 (0)))))])
 (.seq (.seq (.reg [.op (some 3) (.mv (.t 0)),
  .op (some 4) (.binI .geq (.t 3) (.v (.lit (.int .u64 (4294967296)))))])
 (.cond (.t 4)
 (.seq (.reg [.op (some 5) (.mv (.t 0)),
  .op (some 6) (.binI .shr (.t 5) (.v (.lit (.int .u64 (32))))),
  .op (some 0) (.mv (.t 6))])
 (.reg [.op (some 2) (.mv (.v (.lit (.int .i64 (32)))))]))
 .skip))
 (.seq (.seq (.reg [.op (some 7) (.mv (.t 0)),
  .op (some 8) (.binI .geq (.t 7) (.v (.lit (.int .u64 (65536)))))])
 (.cond (.t 8)
 (.seq (.reg [.op (some 9) (.mv (.t 0)),
  .op (some 10) (.binI .shr (.t 9) (.v (.lit (.int .u64 (16))))),
  .op (some 0) (.mv (.t 10))])
 (.reg [.op (some 11) (.mv (.t 2)),
  .op (some 12) (.binI .add (.t 11) (.v (.lit (.int .i64 (16))))),
  .op (some 2) (.mv (.t 12))]))
 .skip))
 (.seq (.seq (.reg [.op (some 13) (.mv (.t 0)),
  .op (some 14) (.binI .geq (.t 13) (.v (.lit (.int .u64 (256)))))])
 (.cond (.t 14)
 (.seq (.reg [.op (some 15) (.mv (.t 0)),
  .op (some 16) (.binI .shr (.t 15) (.v (.lit (.int .u64 (8))))),
  .op (some 0) (.mv (.t 16))])
 (.reg [.op (some 17) (.mv (.t 2)),
  .op (some 18) (.binI .add (.t 17) (.v (.lit (.int .i64 (8))))),
  .op (some 2) (.mv (.t 18))]))
 .skip))
 (.seq (.reg [.op (some 19) (.mv (.t 2)),
  .op (some 20) (.mv (.t 0)),
  .op (some 21) (.conv .u8 (.t 20)),
  .op (some 22) (.idxS (.v (.lit (.string ⟨#[0, 1, 2, 2, 3, 3, 3, 3, 4, 4, 4, 4, 4, 4, 4, 4, 5, 5, 5, 5, 5, 5, 5, 5, 5, 5, 5, 5, 5, 5, 5, 5, 6, 6, 6, 6, 6, 6, 6, 6, 6, 6, 6, 6, 6, 6, 6, 6, 6, 6, 6, 6, 6, 6, 6, 6, 6, 6, 6, 6, 6, 6, 6, 6, 7, 7, 7, 7, 7, 7, 7, 7, 7, 7, 7, 7, 7, 7, 7, 7, 7, 7, 7, 7, 7, 7, 7, 7, 7, 7, 7, 7, 7, 7, 7, 7, 7, 7, 7, 7, 7, 7, 7, 7, 7, 7, 7, 7, 7, 7, 7, 7, 7, 7, 7, 7, 7, 7, 7, 7, 7, 7, 7, 7, 7, 7, 7, 7, 8, 8, 8, 8, 8, 8, 8, 8, 8, 8, 8, 8, 8, 8, 8, 8, 8, 8, 8, 8, 8, 8, 8, 8, 8, 8, 8, 8, 8, 8, 8, 8, 8, 8, 8, 8, 8, 8, 8, 8, 8, 8, 8, 8, 8, 8, 8, 8, 8, 8, 8, 8, 8, 8, 8, 8, 8, 8, 8, 8, 8, 8, 8, 8, 8, 8, 8, 8, 8, 8, 8, 8, 8, 8, 8, 8, 8, 8, 8, 8, 8, 8, 8, 8, 8, 8, 8, 8, 8, 8, 8, 8, 8, 8, 8, 8, 8, 8, 8, 8, 8, 8, 8, 8, 8, 8, 8, 8, 8, 8, 8, 8, 8, 8, 8, 8, 8, 8, 8, 8, 8, 8, 8, 8, 8, 8, 8, 8]⟩))) (.t 21)),
  .op (some 23) (.conv .i64 (.t 22)),
  .op (some 24) (.binI .add (.t 19) (.t 23)),
  .op (some 2) (.mv (.t 24))])
 .ret)))))
def rs61 : List RR := [.tmp 2]
def cut61 : Nat → Nat := fun id => 0
theorem k61 : (Tryd.f61.body.bind fun c => comp Tryd.prog Tryd.f61.ntmps cut61 c) = some r61 := by kernel_rfl
theorem by61 {W0 : World} {σ : List Blk} {args : List AV} {K : Cont} (hn : args.length ≤ 25) (h : rW Tryd.prog W0 σ.length r61 (initFr args) σ (finP W0 rs61 σ.length K)) : ACall Tryd.prog W0 61 args σ K :=
  ACall.introR mixed Tryd.func61 (by kernel_rfl) k61 (by kernel_rfl) hn h
def r62 : RC := (.seq (.reg [.op (some 2) (.mv (.v (.lit (.int .i64 (0)))))])
 (.seq (.seq (.reg [.op (some 3) (.mv (.t 0))])
 (.cond (.t 3)
 (.seq (.reg [.op (some 2) (.mv (.v (.lit (.int .i64 (1)))))])
 .ret)
 .skip))
 (.seq (.reg [.op (some 2) (.mv (.v (.lit (.int .i64 (0)))))])
 .ret)))
def rs62 : List RR := [.tmp 2]
def cut62 : Nat → Nat := fun id => 0
theorem k62 : (Tryd.f62.body.bind fun c => comp Tryd.prog Tryd.f62.ntmps cut62 c) = some r62 := by kernel_rfl
theorem by62 {W0 : World} {σ : List Blk} {args : List AV} {K : Cont} (hn : args.length ≤ 4) (h : rW Tryd.prog W0 σ.length r62 (initFr args) σ (finP W0 rs62 σ.length K)) : ACall Tryd.prog W0 62 args σ K :=
  ACall.introR mixed Tryd.func62 (by kernel_rfl) k62 (by kernel_rfl) hn h
def r63 : RC := (.seq (.reg [.op (some 2) (.mv (.v (.lit (.bool false))))])
 (.seq (.reg [.op (some 3) (.mv (.t 0)),
  .op (some 4) (.mv (.t 0)),
  .op (some 5) (.binI .sub (.t 4) (.v (.lit (.int .i64 (1))))),
  .op (some 6) (.binI .and (.t 3) (.t 5)),
  .op (some 7) (.binI .eql (.t 6) (.v (.lit (.int .i64 (0))))),
  .op (some 2) (.mv (.t 7))])
 .ret))
def rs63 : List RR := [.tmp 2]
def cut63 : Nat → Nat := fun id => 0
theorem k63 : (Tryd.f63.body.bind fun c => comp Tryd.prog Tryd.f63.ntmps cut63 c) = some r63 := by kernel_rfl
theorem by63 {W0 : World} {σ : List Blk} {args : List AV} {K : Cont} (hn : args.length ≤ 8) (h : rW Tryd.prog W0 σ.length r63 (initFr args) σ (finP W0 rs63 σ.length K)) : ACall Tryd.prog W0 63 args σ K :=
  ACall.introR mixed Tryd.func63 (by kernel_rfl) k63 (by kernel_rfl) hn h
def r64 : RC := (.seq (.reg [.op (some 2) (.mv (.v (.lit (.int .i64 (0)))))])
 (.seq (.cond (.v (.lit (.bool false)))
 (.seq (.reg [.op (some 3) (.mv (.t 0)),
  .op (some 4) (.conv .u32 (.t 3)),
  .op (some 5) (.call (.v (.lit (.func (.func 65) #[] #[]))) [(.t 4)]),
  .op (some 2) (.mv (.t 5))])
 .ret)
 .skip)
 (.seq (.reg [.op (some 6) (.mv (.t 0)),
  .op (some 7) (.call (.v (.lit (.func (.func 66) #[] #[]))) [(.t 6)]),
  .op (some 2) (.mv (.t 7))])
 .ret)))
def rs64 : List RR := [.tmp 2]
def cut64 : Nat → Nat := fun id => 0
theorem k64 : (Tryd.f64.body.bind fun c => comp Tryd.prog Tryd.f64.ntmps cut64 c) = some r64 := by kernel_rfl
theorem by64 {W0 : World} {σ : List Blk} {args : List AV} {K : Cont} (hn : args.length ≤ 8) (h : rW Tryd.prog W0 σ.length r64 (initFr args) σ (finP W0 rs64 σ.length K)) : ACall Tryd.prog W0 64 args σ K :=
  ACall.introR mixed Tryd.func64 (by kernel_rfl) k64 (by kernel_rfl) hn h
def r65 : RC := (.seq (.reg [.op (some 2) (.mv (.v (.lit (.int .i64 (0)))))])
 (.seq (.seq (.reg [.op (some 3) (.mv (.t 0)),
  .op (some 4) (.binI .eql (.t 3) (.v (.lit (.int .u32 (0)))))])
 (.cond (.t 4)
 (.seq (.reg [.op (some 2) (.mv (.v (.lit (.int .i64 (32)))))])
 .ret)
 .skip))
 (.seq (.reg [.op (some 5) (.mv (.t 0)),
  .op (some 6) (.mv (.t 0)),
  .op (some 7) (.un .neg (.t 6)),
  .op (some 8) (.binI .and (.t 5) (.t 7)),
  .op (some 9) (.binI .mul (.t 8) (.v (.lit (.int .u32 (125613361))))),
  .op (some 10) (.binI .shr (.t 9) (.v (.lit (.int .u64 (27))))),
  .op (some 11) (.iaddrA 32 1 (.v (.lit (.pointer (some ⟨2, 0, none⟩)))) (.t 10)),
  .op (some 12) (.load 1 false (.t 11)),
  .op (some 13) (.conv .i64 (.t 12)),
  .op (some 2) (.mv (.t 13))])
 .ret)))
def rs65 : List RR := [.tmp 2]
def cut65 : Nat → Nat := fun id => 0
theorem k65 : (Tryd.f65.body.bind fun c => comp Tryd.prog Tryd.f65.ntmps cut65 c) = some r65 := by kernel_rfl
theorem by65 {W0 : World} {σ : List Blk} {args : List AV} {K : Cont} (hn : args.length ≤ 14) (h : rW Tryd.prog W0 σ.length r65 (initFr args) σ (finP W0 rs65 σ.length K)) : ACall Tryd.prog W0 65 args σ K :=
  ACall.introR mixed Tryd.func65 (by kernel_rfl) k65 (by kernel_rfl) hn h
def r66 : RC := (.seq (.reg [.op (some 2) (.mv (.v (.lit (.int .i64 (0)))))])
 (.seq (.seq (.reg [.op (some 3) (.mv (.t 0)),
  .op (some 4) (.binI .eql (.t 3) (.v (.lit (.int .u64 (0)))))])
 (.cond (.t 4)
 (.seq (.reg [.op (some 2) (.mv (.v (.lit (.int .i64 (64)))))])
 .ret)
 .skip))
 (.seq (.reg [.op (some 5) (.mv (.t 0)),
  .op (some 6) (.mv (.t 0)),
  .op (some 7) (.un .neg (.t 6)),
  .op (some 8) (.binI .and (.t 5) (.t 7)),
  .op (some 9) (.binI .mul (.t 8) (.v (.lit (.int .u64 (285870213051353865))))),
  .op (some 10) (.binI .shr (.t 9) (.v (.lit (.int .u64 (58))))),
  .op (some 11) (.iaddrA 64 1 (.v (.lit (.pointer (some ⟨3, 0, none⟩)))) (.t 10)),
  .op (some 12) (.load 1 false (.t 11)),
  .op (some 13) (.conv .i64 (.t 12)),
  .op (some 2) (.mv (.t 13))])
 .ret)))
def rs66 : List RR := [.tmp 2]
def cut66 : Nat → Nat := fun id => 0
theorem k66 : (Tryd.f66.body.bind fun c => comp Tryd.prog Tryd.f66.ntmps cut66 c) = some r66 := by kernel_rfl
theorem by66 {W0 : World} {σ : List Blk} {args : List AV} {K : Cont} (hn : args.length ≤ 14) (h : rW Tryd.prog W0 σ.length r66 (initFr args) σ (finP W0 rs66 σ.length K)) : ACall Tryd.prog W0 66 args σ K :=
  ACall.introR mixed Tryd.func66 (by kernel_rfl) k66 (by kernel_rfl) hn h

end Go.Proofs.YtlmplfgnhibfcaaDoor
