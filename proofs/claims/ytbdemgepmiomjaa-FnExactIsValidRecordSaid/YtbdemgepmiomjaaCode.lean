/- The resolved code of the functions that are reached, and that it stands for the program's own. -/
import Derived.Test.YtbdemgepmiomjaaAbsR
import Derived.Test.YtbdemgepmiomjaaProg
set_option linter.unusedVariables false
namespace Go.Proofs.Ytbdemgepmiomjaa
open Go Go.RowKit Go.Proofs.Ytbdemgepmiomjaa.Abs
theorem mixed : Try.prog.follows .mixedOrders = true := by kernel_rfl
def r2 : RC := (.reg [.op (some 0) (.call (.v (.lit (.func (.func 1) #[] #[]))) [])])
def rs2 : List RR := []
def cut2 : Nat → Nat := fun id => 0
theorem k2 : (Try.f2.body.bind fun c => comp Try.prog Try.f2.ntmps cut2 c) = some r2 := by kernel_rfl
theorem by2 {W0 : World} {σ : List Blk} {args : List AV} {K : Cont} (hn : args.length ≤ 1) (h : rW Try.prog W0 σ.length r2 (initFr args) σ (finP W0 rs2 σ.length K)) : ACall Try.prog W0 2 args σ K :=
  ACall.introR mixed Try.func2 (by kernel_rfl) k2 (by kernel_rfl) hn h
def r3 : RC := (.seq (.reg [.op (some 1) (.box 23 (.t 0)),
  .op (some 2) (.mv (.v (.lit (.bool false))))])
 (.seq (.reg [.op (some 3) (.mv (.v (.lit (.int .i64 (1048576)))))])
 (.seq (.reg [.op (some 6) (.load 2 true (.t 1)),
  .op (some 7) (.mv (.t 3)),
  .op (some 8) (.call (.v (.lit (.func (.func 4) #[] #[]))) [(.t 6), (.t 7)]),
  .op (some 3) (.mv (.t 8))])
 (.seq (.seq (.reg [.op (some 9) (.mv (.t 3)),
  .op (some 10) (.binI .lss (.t 9) (.v (.lit (.int .i64 (0)))))])
 (.cond (.t 10)
 (.seq (.reg [.op (some 2) (.mv (.v (.lit (.bool true))))])
 .ret)
 .skip))
 (.seq (.reg [.op (some 11) (.load 2 true (.t 1)),
  .op (some 12) (.call (.v (.lit (.func (.func 6) #[] #[]))) [(.t 11)]),
  .op (some 13) (.call (.v (.lit (.func (.func 5) #[] #[]))) [(.t 12)]),
  .op (some 4) (.mv (.t 13))])
 (.seq (.reg [.op (some 14) (.load 2 true (.t 1)),
  .op (some 15) (.call (.v (.lit (.func (.func 6) #[] #[]))) [(.t 14)]),
  .op (some 16) (.call (.v (.lit (.func (.func 7) #[] #[]))) [(.t 15)]),
  .op (some 5) (.mv (.t 16))])
 (.seq (.seq (.reg [.op (some 17) (.mv (.t 5)),
  .op (some 18) (.mv (.t 4)),
  .op (some 19) (.binB true (.t 17) (.t 18))])
 (.cond (.t 19)
 (.seq (.reg [.op (some 2) (.mv (.v (.lit (.bool false))))])
 .ret)
 .skip))
 (.seq (.reg [.op (some 2) (.mv (.v (.lit (.bool true))))])
 .ret))))))))
def rs3 : List RR := [.tmp 2]
def cut3 : Nat → Nat := fun id => 0
theorem k3 : (Try.f3.body.bind fun c => comp Try.prog Try.f3.ntmps cut3 c) = some r3 := by kernel_rfl
theorem by3 {W0 : World} {σ : List Blk} {args : List AV} {K : Cont} (hn : args.length ≤ 20) (h : rW Try.prog W0 σ.length r3 (initFr args) σ (finP W0 rs3 σ.length K)) : ACall Try.prog W0 3 args σ K :=
  ACall.introR mixed Try.func3 (by kernel_rfl) k3 (by kernel_rfl) hn h
def r4 : RC := (.seq (.reg [.op (some 2) (.box 23 (.t 0)),
  .op (some 4) (.mv (.v (.lit (.int .i64 (0)))))])
 (.seq (.reg [.op (some 5) (.mv (.t 1)),
  .op (some 6) (.faddr 0 (.t 2)),
  .op (some 7) (.load 1 false (.t 6)),
  .op (some 8) (.lenS (.t 7)),
  .op (some 9) (.binI .sub (.t 5) (.t 8)),
  .op (some 1) (.mv (.t 9))])
 (.seq (.seq (.reg [.op (some 10) (.mv (.t 1)),
  .op (some 11) (.binI .lss (.t 10) (.v (.lit (.int .i64 (0)))))])
 (.cond (.t 11)
 (.seq (.reg [.op (some 4) (.mv (.v (.lit (.int .i64 (-1)))))])
 .ret)
 .skip))
 (.seq (.reg [.op (some 12) (.mv (.t 1)),
  .op (some 13) (.faddr 1 (.t 2)),
  .op (some 14) (.load 1 false (.t 13)),
  .op (some 15) (.lenS (.t 14)),
  .op (some 16) (.binI .sub (.t 12) (.t 15)),
  .op (some 1) (.mv (.t 16))])
 (.seq (.seq (.reg [.op (some 17) (.mv (.t 1)),
  .op (some 18) (.binI .lss (.t 17) (.v (.lit (.int .i64 (0)))))])
 (.cond (.t 18)
 (.seq (.reg [.op (some 4) (.mv (.v (.lit (.int .i64 (-1)))))])
 .ret)
 .skip))
 (.seq (.reg [.op (some 19) (.mv (.t 1)),
  .op (some 4) (.mv (.t 19))])
 .ret))))))
def rs4 : List RR := [.tmp 4]
def cut4 : Nat → Nat := fun id => 0
theorem k4 : (Try.f4.body.bind fun c => comp Try.prog Try.f4.ntmps cut4 c) = some r4 := by kernel_rfl
theorem by4 {W0 : World} {σ : List Blk} {args : List AV} {K : Cont} (hn : args.length ≤ 20) (h : rW Try.prog W0 σ.length r4 (initFr args) σ (finP W0 rs4 σ.length K)) : ACall Try.prog W0 4 args σ K :=
  ACall.introR mixed Try.func4 (by kernel_rfl) k4 (by kernel_rfl) hn h
def r5 : RC := (.seq (.reg [.op (some 1) (.box 26 (.t 0)),
  .op (some 2) (.mv (.v (.lit (.bool false))))])
 (.seq (.reg [.op (some 3) (.load 2 true (.t 1)),
  .op (some 4) (.call (.v (.lit (.func (.func 8) #[] #[]))) [(.t 3)]),
  .op (some 2) (.mv (.t 4))])
 .ret))
def rs5 : List RR := [.tmp 2]
def cut5 : Nat → Nat := fun id => 0
theorem k5 : (Try.f5.body.bind fun c => comp Try.prog Try.f5.ntmps cut5 c) = some r5 := by kernel_rfl
theorem by5 {W0 : World} {σ : List Blk} {args : List AV} {K : Cont} (hn : args.length ≤ 5) (h : rW Try.prog W0 σ.length r5 (initFr args) σ (finP W0 rs5 σ.length K)) : ACall Try.prog W0 5 args σ K :=
  ACall.introR mixed Try.func5 (by kernel_rfl) k5 (by kernel_rfl) hn h
def r6 : RC := (.seq (.reg [.op (some 1) (.box 23 (.t 0)),
  .op (some 2) (.alloc 26 [(.lit (.string ⟨#[]⟩)), (.lit (.string ⟨#[]⟩))])])
 (.seq (.reg [.op (some 3) (.alloc 26 [(.lit (.string ⟨#[]⟩)), (.lit (.string ⟨#[]⟩))])])
 (.seq (.reg [.op (some 4) (.faddr 0 (.t 1)),
  .op (some 5) (.load 1 false (.t 4)),
  .op (some 6) (.faddr 0 (.t 3)),
  .op none (.store 1 (.t 6) (.t 5))])
 (.seq (.reg [.op (some 7) (.faddr 1 (.t 1)),
  .op (some 8) (.load 1 false (.t 7)),
  .op (some 9) (.faddr 1 (.t 3)),
  .op none (.store 1 (.t 9) (.t 8))])
 (.seq (.reg [.op (some 10) (.load 2 true (.t 3)),
  .op none (.store 2 (.t 2) (.t 10))])
 .ret)))))
def rs6 : List RR := [.cell 2 2 true]
def cut6 : Nat → Nat := fun id => 0
theorem k6 : (Try.f6.body.bind fun c => comp Try.prog Try.f6.ntmps cut6 c) = some r6 := by kernel_rfl
theorem by6 {W0 : World} {σ : List Blk} {args : List AV} {K : Cont} (hn : args.length ≤ 11) (h : rW Try.prog W0 σ.length r6 (initFr args) σ (finP W0 rs6 σ.length K)) : ACall Try.prog W0 6 args σ K :=
  ACall.introR mixed Try.func6 (by kernel_rfl) k6 (by kernel_rfl) hn h
def r7 : RC := (.seq (.reg [.op (some 1) (.box 26 (.t 0)),
  .op (some 2) (.mv (.v (.lit (.bool false))))])
 (.seq (.reg [.op (some 3) (.faddr 0 (.t 1)),
  .op (some 4) (.load 1 false (.t 3)),
  .op (some 5) (.call (.v (.lit (.func (.func 9) #[] #[]))) [(.t 4)]),
  .op (some 6) (.mv (.t 5)),
  .grp 6 true [((some 7), (.faddr 1 (.t 1))), ((some 8), (.load 1 false (.t 7))), ((some 9), (.lenS (.t 8))), ((some 10), (.binI .leq (.t 9) (.v (.lit (.int .i64 (250))))))],
  .op (some 11) (.pick (.t 6) (.t 10) (.v (.lit (.bool false)))),
  .op (some 12) (.mv (.t 11)),
  .grp 12 true [((some 13), (.faddr 1 (.t 1))), ((some 14), (.load 1 false (.t 13))), ((some 15), (.call (.v (.lit (.func (.func 10) #[] #[]))) [(.t 14)]))],
  .op (some 16) (.pick (.t 12) (.t 15) (.v (.lit (.bool false)))),
  .op (some 2) (.mv (.t 16))])
 .ret))
def rs7 : List RR := [.tmp 2]
def cut7 : Nat → Nat := fun id => 0
theorem k7 : (Try.f7.body.bind fun c => comp Try.prog Try.f7.ntmps cut7 c) = some r7 := by kernel_rfl
theorem by7 {W0 : World} {σ : List Blk} {args : List AV} {K : Cont} (hn : args.length ≤ 17) (h : rW Try.prog W0 σ.length r7 (initFr args) σ (finP W0 rs7 σ.length K)) : ACall Try.prog W0 7 args σ K :=
  ACall.introR mixed Try.func7 (by kernel_rfl) k7 (by kernel_rfl) hn h
def r8 : RC := (.seq (.reg [.op (some 1) (.box 26 (.t 0)),
  .op (some 2) (.mv (.v (.lit (.bool false))))])
 (.seq (.reg [.op (some 3) (.faddr 0 (.t 1)),
  .op (some 4) (.load 1 false (.t 3)),
  .op (some 5) (.binS .neq (.t 4) (.v (.lit (.string ⟨#[]⟩)))),
  .op (some 6) (.mv (.t 5)),
  .grp 6 true [((some 7), (.faddr 0 (.t 1))), ((some 8), (.load 1 false (.t 7))), ((some 9), (.call (.v (.lit (.func (.func 11) #[] #[]))) [(.t 8), (.v (.lit (.int .i64 (160))))]))],
  .op (some 10) (.pick (.t 6) (.t 9) (.v (.lit (.bool false)))),
  .op (some 11) (.mv (.t 10)),
  .grp 11 true [((some 12), (.faddr 0 (.t 1))), ((some 13), (.load 1 false (.t 12))), ((some 14), (.call (.v (.lit (.func (.func 12) #[] #[]))) [(.t 13), (.v (.lit (.int .u8 (64))))])), ((some 15), (.un .not (.t 14)))],
  .op (some 16) (.pick (.t 11) (.t 15) (.v (.lit (.bool false)))),
  .op (some 17) (.mv (.t 16)),
  .grp 17 true [((some 18), (.faddr 1 (.t 1))), ((some 19), (.load 1 false (.t 18))), ((some 20), (.call (.v (.lit (.func (.func 11) #[] #[]))) [(.t 19), (.v (.lit (.int .i64 (250))))]))],
  .op (some 21) (.pick (.t 17) (.t 20) (.v (.lit (.bool false)))),
  .op (some 2) (.mv (.t 21))])
 .ret))
def rs8 : List RR := [.tmp 2]
def cut8 : Nat → Nat := fun id => 0
theorem k8 : (Try.f8.body.bind fun c => comp Try.prog Try.f8.ntmps cut8 c) = some r8 := by kernel_rfl
theorem by8 {W0 : World} {σ : List Blk} {args : List AV} {K : Cont} (hn : args.length ≤ 22) (h : rW Try.prog W0 σ.length r8 (initFr args) σ (finP W0 rs8 σ.length K)) : ACall Try.prog W0 8 args σ K :=
  ACall.introR mixed Try.func8 (by kernel_rfl) k8 (by kernel_rfl) hn h
def r9 : RC := (.seq (.reg [.op (some 2) (.mv (.v (.lit (.bool false))))])
 (.seq (.reg [.op (some 3) (.mv (.t 0)),
  .op (some 4) (.lenS (.t 3)),
  .op (some 5) (.binI .geq (.t 4) (.v (.lit (.int .i64 (1))))),
  .op (some 6) (.mv (.t 5)),
  .grp 6 true [((some 7), (.mv (.t 0))), ((some 8), (.lenS (.t 7))), ((some 9), (.binI .leq (.t 8) (.v (.lit (.int .i64 (160))))))],
  .op (some 10) (.pick (.t 6) (.t 9) (.v (.lit (.bool false)))),
  .op (some 11) (.mv (.t 10)),
  .grp 11 true [((some 12), (.mv (.t 0))), ((some 13), (.call (.v (.lit (.func (.func 10) #[] #[]))) [(.t 12)]))],
  .op (some 14) (.pick (.t 11) (.t 13) (.v (.lit (.bool false)))),
  .op (some 15) (.mv (.t 14)),
  .grp 15 true [((some 16), (.mv (.t 0))), ((some 17), (.call (.v (.lit (.func (.func 13) #[] #[]))) [(.t 16), (.v (.lit (.string ⟨#[64]⟩)))])), ((some 18), (.un .not (.t 17)))],
  .op (some 19) (.pick (.t 15) (.t 18) (.v (.lit (.bool false)))),
  .op (some 2) (.mv (.t 19))])
 .ret))
def rs9 : List RR := [.tmp 2]
def cut9 : Nat → Nat := fun id => 0
theorem k9 : (Try.f9.body.bind fun c => comp Try.prog Try.f9.ntmps cut9 c) = some r9 := by kernel_rfl
theorem by9 {W0 : World} {σ : List Blk} {args : List AV} {K : Cont} (hn : args.length ≤ 20) (h : rW Try.prog W0 σ.length r9 (initFr args) σ (finP W0 rs9 σ.length K)) : ACall Try.prog W0 9 args σ K :=
  ACall.introR mixed Try.func9 (by kernel_rfl) k9 (by kernel_rfl) hn h
def r10 : RC := (.seq (.reg [.op (some 2) (.mv (.v (.lit (.bool false))))])
 (.seq (.seq (.reg [.op (some 4) (.mv (.t 0)),
  .op (some 5) (.lenS (.t 4)),
  .op (some 6) (.mv (.v (.lit (.int .i64 (0)))))])
 (.block 0 (.loop (.seq (.reg [.op (some 7) (.binI .lss (.t 6) (.t 5))])
 (.seq (.cond (.t 7)
 .skip
 (.exit 0))
 (.seq (.block 1 (.seq (.reg [.op (some 8) (.mv (.t 6)),
  .op (some 3) (.mv (.t 8))])
 (.seq (.reg [.op (some 9) (.mv (.t 0)),
  .op (some 10) (.mv (.t 3)),
  .op (some 11) (.idxS (.t 9) (.t 10)),
  .op (some 12) (.binI .lss (.t 11) (.v (.lit (.int .u8 (32))))),
  .op (some 13) (.mv (.t 12)),
  .grp 13 false [((some 14), (.mv (.t 0))), ((some 15), (.mv (.t 3))), ((some 16), (.idxS (.t 14) (.t 15))), ((some 17), (.binI .gtr (.t 16) (.v (.lit (.int .u8 (126))))))],
  .op (some 18) (.pick (.t 13) (.v (.lit (.bool true))) (.t 17)),
  .op (some 19) (.mv (.t 18)),
  .grp 19 false [((some 20), (.mv (.t 0))), ((some 21), (.mv (.t 3))), ((some 22), (.idxS (.t 20) (.t 21))), ((some 23), (.binI .eql (.t 22) (.v (.lit (.int .u8 (35))))))],
  .op (some 24) (.pick (.t 19) (.v (.lit (.bool true))) (.t 23))])
 (.cond (.t 24)
 (.seq (.reg [.op (some 2) (.mv (.v (.lit (.bool false))))])
 .ret)
 .skip))))
 (.reg [.op (some 25) (.binI .add (.t 6) (.v (.lit (.int .i64 (1))))),
  .op (some 6) (.mv (.t 25))])))))))
 (.seq (.reg [.op (some 2) (.mv (.v (.lit (.bool true))))])
 .ret)))
def rs10 : List RR := [.tmp 2]
def cut10 : Nat → Nat := fun id => 0
theorem k10 : (Try.f10.body.bind fun c => comp Try.prog Try.f10.ntmps cut10 c) = some r10 := by kernel_rfl
theorem by10 {W0 : World} {σ : List Blk} {args : List AV} {K : Cont} (hn : args.length ≤ 26) (h : rW Try.prog W0 σ.length r10 (initFr args) σ (finP W0 rs10 σ.length K)) : ACall Try.prog W0 10 args σ K :=
  ACall.introR mixed Try.func10 (by kernel_rfl) k10 (by kernel_rfl) hn h
def r11 : RC := (.seq (.reg [.op (some 4) (.mv (.v (.lit (.bool false))))])
 (.seq (.seq (.reg [.op (some 5) (.mv (.v (.lit (.int .i64 (0)))))])
 (.block 0 (.loop (.seq (.seq (.reg [.op (some 6) (.mv (.t 5)),
  .op (some 7) (.mv (.t 0)),
  .op (some 8) (.lenS (.t 7)),
  .op (some 9) (.binI .lss (.t 6) (.t 8))])
 (.cond (.t 9)
 .skip
 (.exit 0)))
 (.seq (.block 1 (.seq (.reg [.op (some 12) (.mv (.t 0)),
  .op (some 13) (.mv (.t 5)),
  .op (some 14) (.idxS (.t 12) (.t 13)),
  .op (some 15) (.conv .i64 (.t 14)),
  .op (some 16) (.call (.v (.lit (.func (.func 14) #[] #[]))) [(.t 15), (.v (.lit (.int .i64 (32)))), (.v (.lit (.int .i64 (126))))]),
  .op (some 17) (.un .not (.t 16)),
  .op (some 18) (.mv (.t 17)),
  .grp 18 false [((some 19), (.mv (.t 0))), ((some 20), (.mv (.t 5))), ((some 21), (.idxS (.t 19) (.t 20))), ((some 22), (.binI .eql (.t 21) (.v (.lit (.int .u8 (35))))))],
  .op (some 23) (.pick (.t 18) (.v (.lit (.bool true))) (.t 22))])
 (.cond (.t 23)
 (.seq (.reg [.op (some 4) (.mv (.v (.lit (.bool false))))])
 .ret)
 .skip)))
 (.reg [.op (some 10) (.mv (.t 5)),
  .op (some 11) (.binI .add (.t 10) (.v (.lit (.int .i64 (1))))),
  .op (some 5) (.mv (.t 11))]))))))
 (.seq (.reg [.op (some 24) (.mv (.t 0)),
  .op (some 25) (.lenS (.t 24)),
  .op (some 26) (.mv (.t 1)),
  .op (some 27) (.binI .leq (.t 25) (.t 26)),
  .op (some 4) (.mv (.t 27))])
 .ret)))
def rs11 : List RR := [.tmp 4]
def cut11 : Nat → Nat := fun id => 0
theorem k11 : (Try.f11.body.bind fun c => comp Try.prog Try.f11.ntmps cut11 c) = some r11 := by kernel_rfl
theorem by11 {W0 : World} {σ : List Blk} {args : List AV} {K : Cont} (hn : args.length ≤ 28) (h : rW Try.prog W0 σ.length r11 (initFr args) σ (finP W0 rs11 σ.length K)) : ACall Try.prog W0 11 args σ K :=
  ACall.introR mixed Try.func11 (by kernel_rfl) k11 (by kernel_rfl) hn h
def r12 : RC := (.seq (.reg [.op (some 4) (.mv (.v (.lit (.bool false))))])
 (.seq (.seq (.reg [.op (some 5) (.mv (.v (.lit (.int .i64 (0)))))])
 (.block 0 (.loop (.seq (.seq (.reg [.op (some 6) (.mv (.t 5)),
  .op (some 7) (.mv (.t 0)),
  .op (some 8) (.lenS (.t 7)),
  .op (some 9) (.binI .lss (.t 6) (.t 8))])
 (.cond (.t 9)
 .skip
 (.exit 0)))
 (.seq (.block 1 (.seq (.reg [.op (some 12) (.mv (.t 0)),
  .op (some 13) (.mv (.t 5)),
  .op (some 14) (.idxS (.t 12) (.t 13)),
  .op (some 15) (.mv (.t 1)),
  .op (some 16) (.binI .eql (.t 14) (.t 15))])
 (.cond (.t 16)
 (.seq (.reg [.op (some 4) (.mv (.v (.lit (.bool true))))])
 .ret)
 .skip)))
 (.reg [.op (some 10) (.mv (.t 5)),
  .op (some 11) (.binI .add (.t 10) (.v (.lit (.int .i64 (1))))),
  .op (some 5) (.mv (.t 11))]))))))
 (.seq (.reg [.op (some 4) (.mv (.v (.lit (.bool false))))])
 .ret)))
def rs12 : List RR := [.tmp 4]
def cut12 : Nat → Nat := fun id => 0
theorem k12 : (Try.f12.body.bind fun c => comp Try.prog Try.f12.ntmps cut12 c) = some r12 := by kernel_rfl
theorem by12 {W0 : World} {σ : List Blk} {args : List AV} {K : Cont} (hn : args.length ≤ 17) (h : rW Try.prog W0 σ.length r12 (initFr args) σ (finP W0 rs12 σ.length K)) : ACall Try.prog W0 12 args σ K :=
  ACall.introR mixed Try.func12 (by kernel_rfl) k12 (by kernel_rfl) hn h
def r13 : RC := (.seq (.reg [.op (some 4) (.mv (.v (.lit (.bool false))))])
 (.seq (.reg [.op (some 5) (.mv (.t 0)),
  .op (some 6) (.mv (.t 1)),
  .op (some 7) (.call (.v (.lit (.func (.func 15) #[] #[]))) [(.t 5), (.t 6)]),
  .op (some 8) (.binI .geq (.t 7) (.v (.lit (.int .i64 (0))))),
  .op (some 4) (.mv (.t 8))])
 .ret))
def rs13 : List RR := [.tmp 4]
def cut13 : Nat → Nat := fun id => 0
theorem k13 : (Try.f13.body.bind fun c => comp Try.prog Try.f13.ntmps cut13 c) = some r13 := by kernel_rfl
theorem by13 {W0 : World} {σ : List Blk} {args : List AV} {K : Cont} (hn : args.length ≤ 9) (h : rW Try.prog W0 σ.length r13 (initFr args) σ (finP W0 rs13 σ.length K)) : ACall Try.prog W0 13 args σ K :=
  ACall.introR mixed Try.func13 (by kernel_rfl) k13 (by kernel_rfl) hn h
def r14 : RC := (.seq (.reg [.op (some 6) (.mv (.v (.lit (.bool false))))])
 (.seq (.reg [.op (some 7) (.mv (.t 0)),
  .op (some 8) (.mv (.t 1)),
  .op (some 9) (.binI .geq (.t 7) (.t 8)),
  .op (some 10) (.mv (.t 9)),
  .grp 10 true [((some 11), (.mv (.t 0))), ((some 12), (.mv (.t 2))), ((some 13), (.binI .leq (.t 11) (.t 12)))],
  .op (some 14) (.pick (.t 10) (.t 13) (.v (.lit (.bool false)))),
  .op (some 6) (.mv (.t 14))])
 .ret))
def rs14 : List RR := [.tmp 6]
def cut14 : Nat → Nat := fun id => 0
theorem k14 : (Try.f14.body.bind fun c => comp Try.prog Try.f14.ntmps cut14 c) = some r14 := by kernel_rfl
theorem by14 {W0 : World} {σ : List Blk} {args : List AV} {K : Cont} (hn : args.length ≤ 15) (h : rW Try.prog W0 σ.length r14 (initFr args) σ (finP W0 rs14 σ.length K)) : ACall Try.prog W0 14 args σ K :=
  ACall.introR mixed Try.func14 (by kernel_rfl) k14 (by kernel_rfl) hn h
def r15 : RC := (.seq (.reg [.op (some 4) (.mv (.v (.lit (.int .i64 (0)))))])
 (.seq (.reg [.op (some 5) (.mv (.t 0)),
  .op (some 6) (.mv (.t 1)),
  .op (some 7) (.call (.v (.lit (.func (.func 16) #[] #[]))) [(.t 5), (.t 6)]),
  .op (some 4) (.mv (.t 7))])
 .ret))
def rs15 : List RR := [.tmp 4]
def cut15 : Nat → Nat := fun id => 0
theorem k15 : (Try.f15.body.bind fun c => comp Try.prog Try.f15.ntmps cut15 c) = some r15 := by kernel_rfl
theorem by15 {W0 : World} {σ : List Blk} {args : List AV} {K : Cont} (hn : args.length ≤ 8) (h : rW Try.prog W0 σ.length r15 (initFr args) σ (finP W0 rs15 σ.length K)) : ACall Try.prog W0 15 args σ K :=
  ACall.introR mixed Try.func15 (by kernel_rfl) k15 (by kernel_rfl) hn h
def r16 : RC := (.seq (.reg [.op (some 4) (.mv (.v (.lit (.int .i64 (0)))))])
 (.seq (.reg [.op (some 14) (.mv (.t 1)),
  .op (some 15) (.lenS (.t 14)),
  .op (some 5) (.mv (.t 15))])
 (.seq (.block 0 (.seq (.reg [.op (some 17) (.mv (.t 5)),
  .op (some 18) (.binI .eql (.t 17) (.v (.lit (.int .i64 (0))))),
  .op (some 19) (.mv (.t 18)),
  .grp 19 false [((some 20), (.mv (.t 1))), ((some 21), (.mv (.t 0))), ((some 22), (.binS .eql (.t 20) (.t 21)))],
  .op (some 23) (.pick (.t 19) (.v (.lit (.bool true))) (.t 22)),
  .op (some 16) (.mv (.t 23))])
 (.cond (.t 16)
 (.seq (.reg [.op (some 4) (.mv (.v (.lit (.int .i64 (0)))))])
 .ret)
 (.seq (.reg [.op (some 25) (.mv (.t 5)),
  .op (some 26) (.binI .eql (.t 25) (.v (.lit (.int .i64 (1))))),
  .op (some 24) (.mv (.t 26))])
 (.cond (.t 24)
 (.seq (.reg [.op (some 27) (.mv (.t 0)),
  .op (some 28) (.mv (.t 1)),
  .op (some 29) (.idxS (.t 28) (.v (.lit (.int .i64 (0))))),
  .op (some 30) (.call (.v (.lit (.func (.func 17) #[] #[]))) [(.t 27), (.t 29)]),
  .op (some 4) (.mv (.t 30))])
 .ret)
 (.seq (.reg [.op (some 32) (.mv (.t 5)),
  .op (some 33) (.mv (.t 0)),
  .op (some 34) (.lenS (.t 33)),
  .op (some 35) (.binI .geq (.t 32) (.t 34)),
  .op (some 31) (.mv (.t 35))])
 (.cond (.t 31)
 (.seq (.reg [.op (some 4) (.mv (.v (.lit (.int .i64 (-1)))))])
 .ret)
 (.seq (.reg [.op (some 37) (.mv (.t 5)),
  .op (some 38) (.load 1 false (.v (.lit (.pointer (some ⟨0, 0, none⟩))))),
  .op (some 39) (.binI .leq (.t 37) (.t 38)),
  .op (some 40) (.mv (.t 39)),
  .grp 40 true [((some 41), (.mv (.t 0))), ((some 42), (.lenS (.t 41))), ((some 43), (.binI .leq (.t 42) (.v (.lit (.int .i64 (64))))))],
  .op (some 44) (.pick (.t 40) (.t 43) (.v (.lit (.bool false)))),
  .op (some 36) (.mv (.t 44))])
 (.cond (.t 36)
 (.seq (.reg [.op (some 45) (.mv (.t 0)),
  .op (some 46) (.mv (.t 1)),
  .op (some 47) (.call (.v (.lit (.func (.func 18) #[] #[]))) [(.t 45), (.t 46)]),
  .op (some 4) (.mv (.t 47))])
 .ret)
 .skip)))))))))
 (.seq (.reg [.op (some 48) (.mv (.t 1)),
  .op (some 49) (.idxS (.t 48) (.v (.lit (.int .i64 (0))))),
  .op (some 6) (.mv (.t 49))])
 (.seq (.reg [.op (some 50) (.mv (.t 1)),
  .op (some 51) (.idxS (.t 50) (.v (.lit (.int .i64 (1))))),
  .op (some 7) (.mv (.t 51))])
 (.seq (.reg [.op (some 8) (.mv (.v (.lit (.int .i64 (0)))))])
 (.seq (.reg [.op (some 52) (.mv (.t 0)),
  .op (some 53) (.lenS (.t 52)),
  .op (some 54) (.mv (.t 5)),
  .op (some 55) (.binI .sub (.t 53) (.t 54)),
  .op (some 56) (.binI .add (.t 55) (.v (.lit (.int .i64 (1))))),
  .op (some 9) (.mv (.t 56))])
 (.seq (.reg [.op (some 10) (.mv (.v (.lit (.int .i64 (0)))))])
 (.seq (.block 1 (.loop (.seq (.seq (.reg [.op (some 57) (.mv (.t 8)),
  .op (some 58) (.mv (.t 9)),
  .op (some 59) (.binI .lss (.t 57) (.t 58))])
 (.cond (.t 59)
 .skip
 (.exit 1)))
 (.block 2 (.seq (.seq (.reg [.op (some 60) (.mv (.t 0)),
  .op (some 61) (.mv (.t 8)),
  .op (some 62) (.idxS (.t 60) (.t 61)),
  .op (some 63) (.mv (.t 6)),
  .op (some 64) (.binI .neq (.t 62) (.t 63))])
 (.cond (.t 64)
 (.seq (.reg [.op (some 65) (.mv (.t 0)),
  .op (some 66) (.mv (.t 8)),
  .op (some 67) (.binI .add (.t 66) (.v (.lit (.int .i64 (1))))),
  .op (some 68) (.mv (.t 9)),
  .op (some 69) (.sliceS (.t 65) (some (.t 67)) (some (.t 68))),
  .op (some 70) (.mv (.t 6)),
  .op (some 71) (.call (.v (.lit (.func (.func 17) #[] #[]))) [(.t 69), (.t 70)]),
  .op (some 11) (.mv (.t 71))])
 (.seq (.seq (.reg [.op (some 72) (.mv (.t 11)),
  .op (some 73) (.binI .lss (.t 72) (.v (.lit (.int .i64 (0)))))])
 (.cond (.t 73)
 (.seq (.reg [.op (some 4) (.mv (.v (.lit (.int .i64 (-1)))))])
 .ret)
 .skip))
 (.reg [.op (some 74) (.mv (.t 8)),
  .op (some 75) (.mv (.t 11)),
  .op (some 76) (.binI .add (.t 75) (.v (.lit (.int .i64 (1))))),
  .op (some 77) (.binI .add (.t 74) (.t 76)),
  .op (some 8) (.mv (.t 77))])))
 .skip))
 (.seq (.seq (.reg [.op (some 78) (.mv (.t 0)),
  .op (some 79) (.mv (.t 8)),
  .op (some 80) (.binI .add (.t 79) (.v (.lit (.int .i64 (1))))),
  .op (some 81) (.idxS (.t 78) (.t 80)),
  .op (some 82) (.mv (.t 7)),
  .op (some 83) (.binI .eql (.t 81) (.t 82)),
  .op (some 84) (.mv (.t 83)),
  .grp 84 true [((some 85), (.mv (.t 0))), ((some 86), (.mv (.t 8))), ((some 87), (.mv (.t 8))), ((some 88), (.mv (.t 5))), ((some 89), (.binI .add (.t 87) (.t 88))), ((some 90), (.sliceS (.t 85) (some (.t 86)) (some (.t 89)))), ((some 91), (.mv (.t 1))), ((some 92), (.binS .eql (.t 90) (.t 91)))],
  .op (some 93) (.pick (.t 84) (.t 92) (.v (.lit (.bool false))))])
 (.cond (.t 93)
 (.seq (.reg [.op (some 94) (.mv (.t 8)),
  .op (some 4) (.mv (.t 94))])
 .ret)
 .skip))
 (.seq (.reg [.op (some 95) (.mv (.t 8)),
  .op (some 96) (.binI .add (.t 95) (.v (.lit (.int .i64 (1))))),
  .op (some 8) (.mv (.t 96))])
 (.seq (.reg [.op (some 97) (.mv (.t 10)),
  .op (some 98) (.binI .add (.t 97) (.v (.lit (.int .i64 (1))))),
  .op (some 10) (.mv (.t 98))])
 (.seq (.reg [.op (some 99) (.mv (.t 5)),
  .op (some 100) (.load 1 false (.v (.lit (.pointer (some ⟨0, 0, none⟩))))),
  .op (some 101) (.binI .leq (.t 99) (.t 100)),
  .op (some 102) (.mv (.t 101)),
  .grp 102 true [((some 103), (.mv (.t 10))), ((some 104), (.mv (.t 8))), ((some 105), (.call (.v (.lit (.func (.func 19) #[] #[]))) [(.t 104)])), ((some 106), (.binI .gtr (.t 103) (.t 105)))],
  .op (some 107) (.pick (.t 102) (.t 106) (.v (.lit (.bool false))))])
 (.cond (.t 107)
 (.seq (.reg [.op (some 108) (.mv (.t 0)),
  .op (some 109) (.mv (.t 8)),
  .op (some 110) (.sliceS (.t 108) (some (.t 109)) none),
  .op (some 111) (.mv (.t 1)),
  .op (some 112) (.call (.v (.lit (.func (.func 18) #[] #[]))) [(.t 110), (.t 111)]),
  .op (some 12) (.mv (.t 112))])
 (.seq (.seq (.reg [.op (some 113) (.mv (.t 12)),
  .op (some 114) (.binI .geq (.t 113) (.v (.lit (.int .i64 (0)))))])
 (.cond (.t 114)
 (.seq (.reg [.op (some 115) (.mv (.t 12)),
  .op (some 116) (.mv (.t 8)),
  .op (some 117) (.binI .add (.t 115) (.t 116)),
  .op (some 4) (.mv (.t 117))])
 .ret)
 .skip))
 (.seq (.reg [.op (some 4) (.mv (.v (.lit (.int .i64 (-1)))))])
 .ret)))
 (.seq (.reg [.op (some 118) (.mv (.t 5)),
  .op (some 119) (.load 1 false (.v (.lit (.pointer (some ⟨0, 0, none⟩))))),
  .op (some 120) (.binI .gtr (.t 118) (.t 119)),
  .op (some 121) (.mv (.t 120)),
  .grp 121 true [((some 122), (.mv (.t 10))), ((some 123), (.mv (.t 8))), ((some 124), (.binI .shr (.t 123) (.v (.lit (.int .u64 (4)))))), ((some 125), (.binI .add (.v (.lit (.int .i64 (4)))) (.t 124))), ((some 126), (.binI .geq (.t 122) (.t 125)))],
  .op (some 127) (.pick (.t 121) (.t 126) (.v (.lit (.bool false)))),
  .op (some 128) (.mv (.t 127)),
  .grp 128 true [((some 129), (.mv (.t 8))), ((some 130), (.mv (.t 9))), ((some 131), (.binI .lss (.t 129) (.t 130)))],
  .op (some 132) (.pick (.t 128) (.t 131) (.v (.lit (.bool false))))])
 (.cond (.t 132)
 (.seq (.reg [.op (some 133) (.mv (.t 0)),
  .op (some 134) (.mv (.t 8)),
  .op (some 135) (.sliceS (.t 133) (some (.t 134)) none),
  .op (some 136) (.mv (.t 1)),
  .op (some 137) (.call (.v (.lit (.func (.func 20) #[] #[]))) [(.t 135), (.t 136)]),
  .op (some 13) (.mv (.t 137))])
 (.seq (.seq (.reg [.op (some 138) (.mv (.t 13)),
  .op (some 139) (.binI .lss (.t 138) (.v (.lit (.int .i64 (0)))))])
 (.cond (.t 139)
 (.seq (.reg [.op (some 4) (.mv (.v (.lit (.int .i64 (-1)))))])
 .ret)
 .skip))
 (.seq (.reg [.op (some 140) (.mv (.t 8)),
  .op (some 141) (.mv (.t 13)),
  .op (some 142) (.binI .add (.t 140) (.t 141)),
  .op (some 4) (.mv (.t 142))])
 .ret)))
 .skip))))))))))))
 (.seq (.reg [.op (some 4) (.mv (.v (.lit (.int .i64 (-1)))))])
 .ret))))))))))
def rs16 : List RR := [.tmp 4]
def cut16 : Nat → Nat := fun id => 0
theorem k16 : (Try.f16.body.bind fun c => comp Try.prog Try.f16.ntmps cut16 c) = some r16 := by kernel_rfl
theorem by16 {W0 : World} {σ : List Blk} {args : List AV} {K : Cont} (hn : args.length ≤ 143) (h : rW Try.prog W0 σ.length r16 (initFr args) σ (finP W0 rs16 σ.length K)) : ACall Try.prog W0 16 args σ K :=
  ACall.introR mixed Try.func16 (by kernel_rfl) k16 (by kernel_rfl) hn h
def r17 : RC := (.seq (.reg [.op (some 4) (.mv (.v (.lit (.int .i64 (0)))))])
 (.seq (.reg [.op (some 5) (.mv (.t 0)),
  .op (some 6) (.mv (.t 1)),
  .op (some 7) (.call (.v (.lit (.func (.func 21) #[] #[]))) [(.t 5), (.t 6)]),
  .op (some 4) (.mv (.t 7))])
 .ret))
def rs17 : List RR := [.tmp 4]
def cut17 : Nat → Nat := fun id => 0
theorem k17 : (Try.f17.body.bind fun c => comp Try.prog Try.f17.ntmps cut17 c) = some r17 := by kernel_rfl
theorem by17 {W0 : World} {σ : List Blk} {args : List AV} {K : Cont} (hn : args.length ≤ 8) (h : rW Try.prog W0 σ.length r17 (initFr args) σ (finP W0 rs17 σ.length K)) : ACall Try.prog W0 17 args σ K :=
  ACall.introR mixed Try.func17 (by kernel_rfl) k17 (by kernel_rfl) hn h
def r19 : RC := (.seq (.reg [.op (some 2) (.mv (.v (.lit (.int .i64 (0)))))])
 (.seq (.reg [.op (some 3) (.mv (.t 0)),
  .op (some 4) (.binI .add (.t 3) (.v (.lit (.int .i64 (16))))),
  .op (some 5) (.binI .quo (.t 4) (.v (.lit (.int .i64 (8))))),
  .op (some 2) (.mv (.t 5))])
 .ret))
def rs19 : List RR := [.tmp 2]
def cut19 : Nat → Nat := fun id => 0
theorem k19 : (Try.f19.body.bind fun c => comp Try.prog Try.f19.ntmps cut19 c) = some r19 := by kernel_rfl
theorem by19 {W0 : World} {σ : List Blk} {args : List AV} {K : Cont} (hn : args.length ≤ 6) (h : rW Try.prog W0 σ.length r19 (initFr args) σ (finP W0 rs19 σ.length K)) : ACall Try.prog W0 19 args σ K :=
  ACall.introR mixed Try.func19 (by kernel_rfl) k19 (by kernel_rfl) hn h
def r20 : RC := (.seq (.reg [.op (some 4) (.mv (.v (.lit (.int .i64 (0)))))])
 (.seq (.reg [.op (some 12) (.mv (.t 1)),
  .op (some 13) (.call (.v (.lit (.func (.func 22) #[] #[]))) [(.t 12)]),
  .op (some 11) (.mv (.t 13)),
  .op (some 14) (.ext (.t 11) 0),
  .op (some 15) (.ext (.t 11) 1),
  .op (some 5) (.mv (.t 14)),
  .op (some 6) (.mv (.t 15))])
 (.seq (.reg [.op (some 16) (.mv (.t 1)),
  .op (some 17) (.lenS (.t 16)),
  .op (some 7) (.mv (.t 17))])
 (.seq (.reg [.op (some 8) (.mv (.v (.lit (.int .u32 (0)))))])
 (.seq (.seq (.reg [.op (some 9) (.mv (.v (.lit (.int .i64 (0)))))])
 (.block 0 (.loop (.seq (.seq (.reg [.op (some 18) (.mv (.t 9)),
  .op (some 19) (.mv (.t 7)),
  .op (some 20) (.binI .lss (.t 18) (.t 19))])
 (.cond (.t 20)
 .skip
 (.exit 0)))
 (.seq (.block 1 (.reg [.op (some 23) (.mv (.t 8)),
  .op (some 24) (.binI .mul (.t 23) (.v (.lit (.int .u32 (16777619))))),
  .op (some 25) (.mv (.t 0)),
  .op (some 26) (.mv (.t 9)),
  .op (some 27) (.idxS (.t 25) (.t 26)),
  .op (some 28) (.conv .u32 (.t 27)),
  .op (some 29) (.binI .add (.t 24) (.t 28)),
  .op (some 8) (.mv (.t 29))]))
 (.reg [.op (some 21) (.mv (.t 9)),
  .op (some 22) (.binI .add (.t 21) (.v (.lit (.int .i64 (1))))),
  .op (some 9) (.mv (.t 22))]))))))
 (.seq (.seq (.reg [.op (some 30) (.mv (.t 8)),
  .op (some 31) (.mv (.t 5)),
  .op (some 32) (.binI .eql (.t 30) (.t 31)),
  .op (some 33) (.mv (.t 32)),
  .grp 33 true [((some 34), (.mv (.t 0))), ((some 35), (.mv (.t 7))), ((some 36), (.sliceS (.t 34) none (some (.t 35)))), ((some 37), (.mv (.t 1))), ((some 38), (.binS .eql (.t 36) (.t 37)))],
  .op (some 39) (.pick (.t 33) (.t 38) (.v (.lit (.bool false))))])
 (.cond (.t 39)
 (.seq (.reg [.op (some 4) (.mv (.v (.lit (.int .i64 (0)))))])
 .ret)
 .skip))
 (.seq (.seq (.reg [.op (some 40) (.mv (.t 7)),
  .op (some 10) (.mv (.t 40))])
 (.block 2 (.loop (.seq (.seq (.reg [.op (some 41) (.mv (.t 10)),
  .op (some 42) (.mv (.t 0)),
  .op (some 43) (.lenS (.t 42)),
  .op (some 44) (.binI .lss (.t 41) (.t 43))])
 (.cond (.t 44)
 .skip
 (.exit 2)))
 (.block 3 (.seq (.reg [.op (some 45) (.mv (.t 8)),
  .op (some 46) (.binI .mul (.t 45) (.v (.lit (.int .u32 (16777619))))),
  .op (some 8) (.mv (.t 46))])
 (.seq (.reg [.op (some 47) (.mv (.t 8)),
  .op (some 48) (.mv (.t 0)),
  .op (some 49) (.mv (.t 10)),
  .op (some 50) (.idxS (.t 48) (.t 49)),
  .op (some 51) (.conv .u32 (.t 50)),
  .op (some 52) (.binI .add (.t 47) (.t 51)),
  .op (some 8) (.mv (.t 52))])
 (.seq (.reg [.op (some 53) (.mv (.t 8)),
  .op (some 54) (.mv (.t 6)),
  .op (some 55) (.mv (.t 0)),
  .op (some 56) (.mv (.t 10)),
  .op (some 57) (.mv (.t 7)),
  .op (some 58) (.binI .sub (.t 56) (.t 57)),
  .op (some 59) (.idxS (.t 55) (.t 58)),
  .op (some 60) (.conv .u32 (.t 59)),
  .op (some 61) (.binI .mul (.t 54) (.t 60)),
  .op (some 62) (.binI .sub (.t 53) (.t 61)),
  .op (some 8) (.mv (.t 62))])
 (.seq (.reg [.op (some 63) (.mv (.t 10)),
  .op (some 64) (.binI .add (.t 63) (.v (.lit (.int .i64 (1))))),
  .op (some 10) (.mv (.t 64))])
 (.seq (.reg [.op (some 65) (.mv (.t 8)),
  .op (some 66) (.mv (.t 5)),
  .op (some 67) (.binI .eql (.t 65) (.t 66)),
  .op (some 68) (.mv (.t 67)),
  .grp 68 true [((some 69), (.mv (.t 0))), ((some 70), (.mv (.t 10))), ((some 71), (.mv (.t 7))), ((some 72), (.binI .sub (.t 70) (.t 71))), ((some 73), (.mv (.t 10))), ((some 74), (.sliceS (.t 69) (some (.t 72)) (some (.t 73)))), ((some 75), (.mv (.t 1))), ((some 76), (.binS .eql (.t 74) (.t 75)))],
  .op (some 77) (.pick (.t 68) (.t 76) (.v (.lit (.bool false))))])
 (.cond (.t 77)
 (.seq (.reg [.op (some 78) (.mv (.t 10)),
  .op (some 79) (.mv (.t 7)),
  .op (some 80) (.binI .sub (.t 78) (.t 79)),
  .op (some 4) (.mv (.t 80))])
 .ret)
 .skip)))))))))))
 (.seq (.reg [.op (some 4) (.mv (.v (.lit (.int .i64 (-1)))))])
 .ret))))))))
def rs20 : List RR := [.tmp 4]
def cut20 : Nat → Nat := fun id => 0
theorem k20 : (Try.f20.body.bind fun c => comp Try.prog Try.f20.ntmps cut20 c) = some r20 := by kernel_rfl
theorem by20 {W0 : World} {σ : List Blk} {args : List AV} {K : Cont} (hn : args.length ≤ 81) (h : rW Try.prog W0 σ.length r20 (initFr args) σ (finP W0 rs20 σ.length K)) : ACall Try.prog W0 20 args σ K :=
  ACall.introR mixed Try.func20 (by kernel_rfl) k20 (by kernel_rfl) hn h
def r22 : RC := (.seq (.reg [.op (some 2) (.mv (.v (.lit (.int .u32 (0))))),
  .op (some 3) (.mv (.v (.lit (.int .u32 (0)))))])
 (.seq (.reg [.op (some 4) (.mv (.v (.lit (.int .u32 (0)))))])
 (.seq (.seq (.reg [.op (some 5) (.mv (.v (.lit (.int .i64 (0)))))])
 (.block 0 (.loop (.seq (.seq (.reg [.op (some 9) (.mv (.t 5)),
  .op (some 10) (.mv (.t 0)),
  .op (some 11) (.lenS (.t 10)),
  .op (some 12) (.binI .lss (.t 9) (.t 11))])
 (.cond (.t 12)
 .skip
 (.exit 0)))
 (.seq (.block 1 (.reg [.op (some 15) (.mv (.t 4)),
  .op (some 16) (.binI .mul (.t 15) (.v (.lit (.int .u32 (16777619))))),
  .op (some 17) (.mv (.t 0)),
  .op (some 18) (.mv (.t 5)),
  .op (some 19) (.idxS (.t 17) (.t 18)),
  .op (some 20) (.conv .u32 (.t 19)),
  .op (some 21) (.binI .add (.t 16) (.t 20)),
  .op (some 4) (.mv (.t 21))]))
 (.reg [.op (some 13) (.mv (.t 5)),
  .op (some 14) (.binI .add (.t 13) (.v (.lit (.int .i64 (1))))),
  .op (some 5) (.mv (.t 14))]))))))
 (.seq (.reg [.op (some 6) (.mv (.v (.lit (.int .u32 (1))))),
  .op (some 7) (.mv (.v (.lit (.int .u32 (16777619)))))])
 (.seq (.seq (.reg [.op (some 22) (.mv (.t 0)),
  .op (some 23) (.lenS (.t 22)),
  .op (some 8) (.mv (.t 23))])
 (.block 2 (.loop (.seq (.seq (.reg [.op (some 24) (.mv (.t 8)),
  .op (some 25) (.binI .gtr (.t 24) (.v (.lit (.int .i64 (0)))))])
 (.cond (.t 25)
 .skip
 (.exit 2)))
 (.seq (.block 3 (.seq (.seq (.reg [.op (some 28) (.mv (.t 8)),
  .op (some 29) (.binI .and (.t 28) (.v (.lit (.int .i64 (1))))),
  .op (some 30) (.binI .neq (.t 29) (.v (.lit (.int .i64 (0)))))])
 (.cond (.t 30)
 (.reg [.op (some 31) (.mv (.t 6)),
  .op (some 32) (.mv (.t 7)),
  .op (some 33) (.binI .mul (.t 31) (.t 32)),
  .op (some 6) (.mv (.t 33))])
 .skip))
 (.reg [.op (some 34) (.mv (.t 7)),
  .op (some 35) (.mv (.t 7)),
  .op (some 36) (.binI .mul (.t 34) (.t 35)),
  .op (some 7) (.mv (.t 36))])))
 (.reg [.op (some 26) (.mv (.t 8)),
  .op (some 27) (.binI .shr (.t 26) (.v (.lit (.int .u64 (1))))),
  .op (some 8) (.mv (.t 27))]))))))
 (.seq (.reg [.op (some 37) (.mv (.t 4)),
  .op (some 38) (.mv (.t 6)),
  .op (some 2) (.mv (.t 37)),
  .op (some 3) (.mv (.t 38))])
 .ret))))))
def rs22 : List RR := [.tmp 2, .tmp 3]
def cut22 : Nat → Nat := fun id => 0
theorem k22 : (Try.f22.body.bind fun c => comp Try.prog Try.f22.ntmps cut22 c) = some r22 := by kernel_rfl
theorem by22 {W0 : World} {σ : List Blk} {args : List AV} {K : Cont} (hn : args.length ≤ 39) (h : rW Try.prog W0 σ.length r22 (initFr args) σ (finP W0 rs22 σ.length K)) : ACall Try.prog W0 22 args σ K :=
  ACall.introR mixed Try.func22 (by kernel_rfl) k22 (by kernel_rfl) hn h

end Go.Proofs.Ytbdemgepmiomjaa
