import Derived.Deep.Slices
import Derived.Test.YtkcbhdjhbnnlgaaProg
import Derived.Test.YtkcbhdjhbnnlgaaZV2
section
/- The abstract logic, part R: a loop by the slots that live; contracts over 'Calls' as abstract calls; memory that came in. -/
set_option linter.unusedVariables false
set_option linter.unusedSimpArgs false
namespace Go.Proofs.Ytkcbhdjhbnnlgaa.Abs
open Go Go.RowKit
theorem mk_size (a : Array UInt8) : (ByteArray.mk a).size = a.size := rfl
/-- the bytes of a string -/
def tl (s : ByteArray) : List UInt8 := s.data.toList
theorem ba_get (s : ByteArray) (i : Nat) : s.data[i]?.getD 0 = (tl s).getD i 0 := by simp [List.getD, tl]
theorem ba_empty (s : ByteArray) : (s.toList == (⟨#[]⟩ : ByteArray).toList) = !decide ((1 : Int) ≤ (s.size : Nat)) := by
  rw [ByteArray.toList_eq, ByteArray.toList_eq]
  have h : s.size = s.data.toList.length := by show s.data.size = _; simp
  rw [h]
  cases s.data.toList <;> simp
  omega
theorem wrap64_eq (n : Int) : IntKind.i64.wrap n = (n + 9223372036854775808) % 18446744073709551616 - 9223372036854775808 := by
  unfold IntKind.wrap
  have e1 : IntKind.i64.bits = 64 := by decide
  have e2 : IntKind.i64.signed = true := by decide
  rw [e1, e2]
  have e3 : (2 : Int) ^ 64 = 18446744073709551616 := by decide
  have e4 : (2 : Int) ^ (64 - 1) = 9223372036854775808 := by decide
  simp only [e3, e4, Bool.true_and]
  split <;> (rename_i h; simp only [decide_eq_true_eq] at h; omega)
/-- a frame by the slots that are known -/
noncomputable def frL (l : List (Nat × AV)) : Fr := fun t => List.rec (motive := fun _ => AV) .junk (fun p _ ih => cond (Nat.beq t p.1) p.2 ih) l
def agr (l : List (Nat × AV)) (fr : Fr) : Prop := List.rec (motive := fun _ => Prop) True (fun p _ ih => fr p.1 = p.2 ∧ ih) l
theorem frL_cons {p : Nat × AV} {l : List (Nat × AV)} {t : Nat} : frL (p :: l) t = cond (Nat.beq t p.1) p.2 (frL l t) := rfl
theorem agr_cons {p : Nat × AV} {l : List (Nat × AV)} {fr : Fr} : agr (p :: l) fr = (fr p.1 = p.2 ∧ agr l fr) := rfl
theorem frL_agr {fr : Fr} : ∀ {l : List (Nat × AV)}, agr l fr → ∀ t, frL l t = .junk ∨ (frL l t = fr t ∧ ∃ p ∈ l, fr t = p.2)
  | [], _, t => .inl rfl
  | p :: l, h, t => by
    rw [agr_cons] at h
    rw [frL_cons]
    cases hb : Nat.beq t p.1 with
    | true =>
      have e : t = p.1 := Nat.eq_of_beq_eq_true hb
      right
      refine ⟨?_, p, List.mem_cons_self, ?_⟩ <;> rw [e, h.1]
      rfl
    | false =>
      rcases frL_agr h.2 t with h' | ⟨h', q, hq, hq'⟩
      · exact .inl h'
      · exact .inr ⟨h', q, List.mem_cons_of_mem _ hq, hq'⟩
/-- what becomes of the blocks at a loop's head: they stay, or those behind k are dropped -/
inductive Fgt (b0 : Nat) (l : List (Nat × AV)) (σ σ' : List Blk) : Prop
  | keep (h : σ' = σ)
  | drop (k : Nat) (hk : b0 ≤ k) (e : σ' = σ.take k) (hc : Closed k σ') (hb : l.all (fun p => bel3 k p.2) = true)
theorem Fgt.forget {b0 : Nat} {l : List (Nat × AV)} {σ σ' : List Blk} {fr : Fr} (h : Fgt b0 l σ σ') (ha : agr l fr) : Forget b0 fr σ (frL l) σ' := by
  cases h with
  | keep e => exact .inl ⟨e, fun t => (frL_agr ha t).imp id (·.1)⟩
  | drop k hk e hc hb =>
    refine .inr ⟨k, hk, e, hc, fun t => (frL_agr ha t).imp id fun ⟨h1, p, hp, h2⟩ => ⟨h1, ?_⟩⟩
    rw [h2]
    exact List.all_eq_true.1 hb p hp
/-- at the end of a round: the next round's head -/
structure Again {X : Type} (b0 : Nat) (sh : X → List (Nat × AV)) (st : X → List Blk) (inv : X → Prop) (m : X → Nat) (n : Nat) (fr : Fr) (σ : List Blk) : Prop where
  ex : ∃ m' fr'' σ'', m' < n ∧ Forget b0 fr σ fr'' σ'' ∧ ∃ y, fr'' = frL (sh y) ∧ σ'' = st y ∧ inv y ∧ m' = m y
theorem Again.go {X : Type} {b0 : Nat} {sh : X → List (Nat × AV)} {st : X → List Blk} {inv : X → Prop} {m : X → Nat} {n : Nat} {fr : Fr} {σ : List Blk} (x : X) (ha : agr (sh x) fr) (hg : Fgt b0 (sh x) σ (st x)) (hi : inv x) (hm : m x < n) :
    Again b0 sh st inv m n fr σ := ⟨m x, _, _, hm, hg.forget ha, x, rfl, rfl, hi, rfl⟩
/-- **A loop by the slots that live.** -/
theorem LoopR.live {X : Type} {b0 : Nat} {body : Fr → List Blk → CPost → Prop} {fr : Fr} {σ : List Blk} {Q : CPost} (sh : X → List (Nat × AV)) (st : X → List Blk) (inv : X → Prop) (m : X → Nat) (x0 : X)
    (hf : agr (sh x0) fr) (hσ : Fgt b0 (sh x0) σ (st x0)) (h0 : inv x0)
    (hb : ∀ x, inv x → body (frL (sh x)) (st x) fun e fr' σ' => match e with
      | .normal => Again b0 sh st inv m (m x) fr' σ'
      | e => Q e fr' σ') : LoopR b0 body fr σ Q := by
  refine LoopR.inv ⟨fun n fr' σ' => ∃ x, fr' = frL (sh x) ∧ σ' = st x ∧ inv x ∧ n = m x, m x0, frL (sh x0), st x0, hσ.forget hf, ⟨x0, rfl, rfl, h0, rfl⟩, ?_⟩
  rintro n fr' σ' ⟨x, rfl, rfl, hx, rfl⟩
  have h := hb x hx
  have e : (fun (e : Exit) (fr' : Fr) (σ' : List Blk) => (match e with | .normal => ∃ m' fr'' σ'', m' < m x ∧ Forget b0 fr' σ' fr'' σ'' ∧ (∃ y, fr'' = frL (sh y) ∧ σ'' = st y ∧ inv y ∧ m' = m y) | e => Q e fr' σ' : Prop))
      = (fun (e : Exit) (fr' : Fr) (σ' : List Blk) => (match e with | .normal => Again b0 sh st inv m (m x) fr' σ' | e => Q e fr' σ' : Prop)) := by
    funext e fr' σ'
    cases e with
    | normal => exact propext ⟨fun h => ⟨h⟩, fun h => h.ex⟩
    | _ => rfl
  exact Eq.mp (congrArg (fun k => body (frL (sh x)) (st x) k) e.symm) h
section
variable {P : Program} {W0 : World} {σ : List Blk} {K : Cont}
theorem HRel.after {ι : Loc} {w w' : World} (h : HRel W0 ι σ w) (hb : Below w.heap.size w w') : HRel W0 ι σ w' := by
  have h0 : HRel w [] [] w' := ⟨hb, rfl, fun i j c t t' h => by simp at h, fun i c t h => by simp at h, fun i B c t h => by simp at h⟩
  have h1 := (h.beside h0).1
  simpa [shB] using h1
end
theorem add_block (a : Addr) (i : Nat) : (a.add i).block = a.block := by unfold Addr.add; split <;> rfl
/-- a slice whose elements are told by a list: it came in (or is nil), or it is the call's own -/
inductive Sli {α : Type} (W0 : World) (σ : List Blk) (s : Nat) (enc : α → List Value) : AV → List α → Prop
  | nil : Sli W0 σ s enc (.lit (.slice none 0 0)) []
  | inn (ad : Addr) (n cap : Nat) (xs : List α) (hn : n = xs.length) (hc : n ≤ cap) (hm : cap ≤ maxLen) (hb : ad.block < W0.heap.size)
      (hx : ∀ i x, xs[i]? = some x → ∀ j v, (enc x)[j]? = some v → W0.cell? ((ad.add (i * s)).add j) = some v ∧ v.oneCell' = true) : Sli W0 σ s enc (.lit (.slice (some ad) n cap)) xs
  | own (b ver off n cap : Nat) (B : Blk) (xs : List α) (hB : σ[b]? = some B) (hv : B.ver = ver) (hn : n = xs.length)
      (hx : ∀ i x, xs[i]? = some x → ∀ j v, (enc x)[j]? = some v → B.cells[off + i * s + j]? = some (.lit v)) : Sli W0 σ s enc (.sl b ver off n cap) xs
section
variable {P : Program} {W0 : World} {σ : List Blk} {K : Cont} {α : Type} {s : Nat} {enc : α → List Value}
theorem Sli.conc {a : AV} {xs : List α} {ι : Loc} {W1 : World} (h : Sli W0 σ s enc a xs) (hh : HRel W0 ι σ W1) (hr : ∃ x, rel3 ι σ a x) : ∃ a', (∀ x, rel3 ι σ a x → rel3 [] [] a' x) ∧ Sli W1 [] s enc a' xs := by
  cases h with
  | nil => exact ⟨.lit (.slice none 0 0), fun x hx => hx, .nil⟩
  | inn ad n cap xs hn hc hm hb hx =>
    refine ⟨.lit (.slice (some ad) n cap), fun x hx => hx, .inn ad n cap xs hn hc hm (Nat.lt_of_lt_of_le hb hh.below.size) fun i x hi j v hj => ?_⟩
    rw [hh.below.cell (p := (ad.add (i * s)).add j) (by rw [add_block, add_block]; exact hb)]
    exact hx i x hi j v hj
  | own b ver off n cap B xs hB hv hn hx =>
    obtain ⟨x0, h0⟩ := hr
    have h0' : slRel ι σ b ver off n cap x0 := h0
    obtain ⟨c, t, hi, rfl, hc, hm, _⟩ := slRel_now h0' hB hv
    refine ⟨.lit (.slice (some ⟨c, off, none⟩) n cap), fun x hx => ?_, .inn _ n cap xs hn hc hm (hh.dom b c t hi).2 fun i x hxi j v hj => ?_⟩
    · have hx' : slRel ι σ b ver off n cap x := hx
      obtain ⟨c', t', hi', rfl, _⟩ := slRel_now hx' hB hv
      rw [hi] at hi'; cases hi'; rfl
    · obtain ⟨vs, rest, h1, h2, h3, h4⟩ := hh.blk b B c t hB hi
      have hcell := hx i x hxi j v hj
      obtain ⟨y, hy, hyr⟩ := h3.get hcell
      have e1 : y = v := hyr.1
      subst e1
      rw [add_own, cell?_own h1]
      refine ⟨?_, hyr.2⟩
      rw [List.getElem?_append_left (getElem?_lt hy)]
      exact hy
/-- the arguments as the callee sees them -/
inductive Sees (W1 : World) (ι : Loc) (σ : List Blk) : List AV → List AV → Prop
  | nil : Sees W1 ι σ [] []
  | cons {a a' : AV} {l l' : List AV} (h : ∀ x, rel3 ι σ a x → rel3 [] [] a' x) (t : Sees W1 ι σ l l') : Sees W1 ι σ (a :: l) (a' :: l')
/-! ### loads of what came in -/
theorem ldIn {ad : Addr} {xs : List α} (hb : ad.block < W0.heap.size) (hx : ∀ i x, xs[i]? = some x → ∀ j v, (enc x)[j]? = some v → W0.cell? ((ad.add (i * s)).add j) = some v ∧ v.oneCell' = true)
    {k : Nat} {x : α} (hk : xs[k]? = some x) (hs : (enc x).length = s) {C : List Value → Prop} (h : C (enc x)) :
    ∃ cs : List Value, cs.length = s ∧ (∀ (j : Nat) (v : Value), cs[j]? = some v → W0.cell? ((ad.add (k * s)).add j) = some v ∧ v.oneCell' = true) ∧ (ad.add (k * s)).block < W0.heap.size ∧ C cs :=
  ⟨enc x, hs, hx k x hk, by rw [add_block]; exact hb, h⟩
end
end Go.Proofs.Ytkcbhdjhbnnlgaa.Abs
end

section
/- From a contract to the statement: slices that came in. -/
set_option linter.unusedVariables false
set_option linter.unusedSimpArgs false
namespace Go.Proofs.Ytkcbhdjhbnnlgaa
open Go Go.RowKit Go.Proofs.Ytkcbhdjhbnnlgaa.Abs Go.ChangeShapes Go.WideShapes
section
variable {H : Type} {enc : TypeId × Value → H} {P : Program} {w : World} {base : Nat} {spare : Nat → Bool} {held : Bool}
theorem shape_lt {b : Nat} {r : TypeId × Nat} (h : w.shape? b = some r) : b < w.heap.size := by
  unfold World.shape? at h
  cases hb : w.heap[b]? with
  | none => rw [hb] at h; simp at h
  | some o => exact (Array.getElem?_eq_some_iff.1 hb).1
abbrev encL (l : List Int) : List Value := l.map (Value.int .i64)
end
end Go.Proofs.Ytkcbhdjhbnnlgaa
end

section
/- The resolved code of the functions that are reached, and that it stands for the program's own. -/
set_option linter.unusedVariables false
namespace Go.Proofs.Ytkcbhdjhbnnlgaa
open Go Go.RowKit Go.Proofs.Ytkcbhdjhbnnlgaa.Abs
theorem mixed : Try.prog.follows .mixedOrders = true := by kernel_rfl
def r3 : RC := (.seq (.reg [.op (some 2) (.mv (.v (.lit (.bool false))))])
 (.seq (.seq (.reg [.op (some 55) (.mv (.t 0)),
  .op (some 56) (.call (.v (.lit (.func (.func 6) #[] #[]))) [(.t 55)])])
 (.cond (.t 56)
 (.seq (.reg [.op (some 2) (.mv (.v (.lit (.bool true))))])
 .ret)
 .skip))
 (.seq (.reg [.op (some 58) (.mv (.t 0)),
  .op (some 59) (.call (.v (.lit (.func (.func 7) #[] #[]))) [(.t 58)]),
  .op (some 57) (.mv (.t 59)),
  .op (some 60) (.ext (.t 57) 0),
  .op (some 61) (.ext (.t 57) 1),
  .op (some 62) (.ext (.t 57) 2),
  .op (some 3) (.alloc 26 (List.replicate 6 (.lit (.int .i64 (0))))),
  .op (some 4) (.alloc 26 (List.replicate 6 (.lit (.int .i64 (0))))),
  .op (some 5) (.alloc 27 [(.lit (.int .i64 (0))), (.lit (.int .i64 (0)))]),
  .op none (.store 6 (.t 3) (.t 60)),
  .op none (.store 6 (.t 4) (.t 61)),
  .op none (.store 2 (.t 5) (.t 62))])
 (.seq (.reg [.op (some 64) (.load 6 true (.t 3)),
  .op (some 65) (.load 6 true (.t 4)),
  .op (some 66) (.load 2 true (.t 5)),
  .op (some 67) (.call (.v (.lit (.func (.func 8) #[] #[]))) [(.t 64), (.t 65), (.t 66)]),
  .op (some 63) (.mv (.t 67)),
  .op (some 68) (.ext (.t 63) 0),
  .op (some 69) (.ext (.t 63) 1),
  .op (some 6) (.alloc 26 (List.replicate 6 (.lit (.int .i64 (0))))),
  .op none (.store 6 (.t 6) (.t 68)),
  .op (some 7) (.mv (.t 69))])
 (.seq (.seq (.reg [.op (some 71) (.load 6 true (.t 3)),
  .op (some 72) (.load 6 true (.t 4)),
  .op (some 73) (.load 2 true (.t 5)),
  .op (some 74) (.call (.v (.lit (.func (.func 9) #[] #[]))) [(.t 71), (.t 72), (.t 73)]),
  .op (some 70) (.mv (.t 74)),
  .op (some 75) (.ext (.t 70) 0),
  .op (some 76) (.ext (.t 70) 1),
  .op (some 8) (.alloc 26 (List.replicate 6 (.lit (.int .i64 (0))))),
  .op none (.store 6 (.t 8) (.t 75)),
  .op (some 9) (.mv (.t 76))])
 (.seq (.reg [.op (some 77) (.load 6 true (.t 6)),
  .op (some 78) (.load 6 true (.t 8)),
  .op (some 79) (.eqA true [.int, .int, .int, .int, .int, .int] (.t 77) (.t 78)),
  .op (some 80) (.mv (.t 79)),
  .grp 80 false [((some 81), (.mv (.t 7))), ((some 82), (.mv (.t 9))), ((some 83), (.binB true (.t 81) (.t 82)))],
  .op (some 84) (.pick (.t 80) (.v (.lit (.bool true))) (.t 83))])
 (.cond (.t 84)
 (.seq (.reg [.op (some 2) (.mv (.v (.lit (.bool false))))])
 .ret)
 .skip)))
 (.seq (.reg [.op (some 86) (.load 6 true (.t 3)),
  .op (some 87) (.load 6 true (.t 4)),
  .op (some 88) (.load 2 true (.t 5)),
  .op (some 89) (.call (.v (.lit (.func (.func 10) #[] #[]))) [(.t 86), (.t 87), (.t 88)]),
  .op (some 85) (.mv (.t 89)),
  .op (some 90) (.ext (.t 85) 0),
  .op (some 91) (.ext (.t 85) 1),
  .op (some 10) (.alloc 26 (List.replicate 6 (.lit (.int .i64 (0))))),
  .op none (.store 6 (.t 10) (.t 90)),
  .op (some 11) (.mv (.t 91))])
 (.seq (.seq (.reg [.op (some 93) (.load 6 true (.t 3)),
  .op (some 94) (.load 6 true (.t 4)),
  .op (some 95) (.load 2 true (.t 5)),
  .op (some 96) (.call (.v (.lit (.func (.func 11) #[] #[]))) [(.t 93), (.t 94), (.t 95)]),
  .op (some 92) (.mv (.t 96)),
  .op (some 97) (.ext (.t 92) 0),
  .op (some 98) (.ext (.t 92) 1),
  .op (some 12) (.alloc 26 (List.replicate 6 (.lit (.int .i64 (0))))),
  .op none (.store 6 (.t 12) (.t 97)),
  .op (some 13) (.mv (.t 98))])
 (.seq (.reg [.op (some 99) (.load 6 true (.t 10)),
  .op (some 100) (.load 6 true (.t 12)),
  .op (some 101) (.eqA true [.int, .int, .int, .int, .int, .int] (.t 99) (.t 100)),
  .op (some 102) (.mv (.t 101)),
  .grp 102 false [((some 103), (.mv (.t 11))), ((some 104), (.mv (.t 13))), ((some 105), (.binB true (.t 103) (.t 104)))],
  .op (some 106) (.pick (.t 102) (.v (.lit (.bool true))) (.t 105)),
  .op (some 107) (.mv (.t 106)),
  .grp 107 false [((some 108), (.mv (.t 11))), ((some 109), (.mv (.t 7))), ((some 110), (.binB true (.t 108) (.t 109)))],
  .op (some 111) (.pick (.t 107) (.v (.lit (.bool true))) (.t 110))])
 (.cond (.t 111)
 (.seq (.reg [.op (some 2) (.mv (.v (.lit (.bool false))))])
 .ret)
 .skip)))
 (.seq (.reg [.op (some 113) (.load 6 true (.t 3)),
  .op (some 114) (.load 6 true (.t 4)),
  .op (some 115) (.load 2 true (.t 5)),
  .op (some 116) (.call (.v (.lit (.func (.func 12) #[] #[]))) [(.t 113), (.t 114), (.t 115)]),
  .op (some 112) (.mv (.t 116)),
  .op (some 117) (.ext (.t 112) 0),
  .op (some 118) (.ext (.t 112) 1),
  .op (some 14) (.alloc 26 (List.replicate 6 (.lit (.int .i64 (0))))),
  .op none (.store 6 (.t 14) (.t 117)),
  .op (some 15) (.mv (.t 118))])
 (.seq (.seq (.reg [.op (some 120) (.load 6 true (.t 3)),
  .op (some 121) (.load 6 true (.t 4)),
  .op (some 122) (.load 2 true (.t 5)),
  .op (some 123) (.call (.v (.lit (.func (.func 13) #[] #[]))) [(.t 120), (.t 121), (.t 122)]),
  .op (some 119) (.mv (.t 123)),
  .op (some 124) (.ext (.t 119) 0),
  .op (some 125) (.ext (.t 119) 1),
  .op (some 16) (.alloc 26 (List.replicate 6 (.lit (.int .i64 (0))))),
  .op none (.store 6 (.t 16) (.t 124)),
  .op (some 17) (.mv (.t 125))])
 (.seq (.reg [.op (some 126) (.load 6 true (.t 14)),
  .op (some 127) (.load 6 true (.t 16)),
  .op (some 128) (.eqA true [.int, .int, .int, .int, .int, .int] (.t 126) (.t 127)),
  .op (some 129) (.mv (.t 128)),
  .grp 129 false [((some 130), (.mv (.t 15))), ((some 131), (.mv (.t 17))), ((some 132), (.binB true (.t 130) (.t 131)))],
  .op (some 133) (.pick (.t 129) (.v (.lit (.bool true))) (.t 132)),
  .op (some 134) (.mv (.t 133)),
  .grp 134 false [((some 135), (.mv (.t 15))), ((some 136), (.mv (.t 7))), ((some 137), (.binB true (.t 135) (.t 136)))],
  .op (some 138) (.pick (.t 134) (.v (.lit (.bool true))) (.t 137))])
 (.cond (.t 138)
 (.seq (.reg [.op (some 2) (.mv (.v (.lit (.bool false))))])
 .ret)
 .skip)))
 (.seq (.reg [.op (some 140) (.mv (.t 0)),
  .op (some 141) (.call (.v (.lit (.func (.func 14) #[] #[]))) [(.t 140)]),
  .op (some 139) (.mv (.t 141)),
  .op (some 142) (.ext (.t 139) 0),
  .op (some 143) (.ext (.t 139) 1),
  .op (some 144) (.ext (.t 139) 2),
  .op (some 18) (.alloc 26 (List.replicate 6 (.lit (.int .i64 (0))))),
  .op none (.store 6 (.t 18) (.t 142)),
  .op (some 19) (.mv (.t 143)),
  .op (some 20) (.mv (.t 144))])
 (.seq (.reg [.op (some 146) (.load 6 true (.t 18)),
  .op (some 147) (.mv (.t 19)),
  .op (some 148) (.mv (.t 20)),
  .op (some 149) (.call (.v (.lit (.func (.func 15) #[] #[]))) [(.t 146), (.t 147), (.t 148)]),
  .op (some 145) (.mv (.t 149)),
  .op (some 150) (.ext (.t 145) 0),
  .op (some 151) (.ext (.t 145) 1),
  .op (some 21) (.alloc 26 (List.replicate 6 (.lit (.int .i64 (0))))),
  .op none (.store 6 (.t 21) (.t 150)),
  .op (some 22) (.mv (.t 151))])
 (.seq (.seq (.reg [.op (some 153) (.load 6 true (.t 18)),
  .op (some 154) (.mv (.t 19)),
  .op (some 155) (.mv (.t 20)),
  .op (some 156) (.call (.v (.lit (.func (.func 16) #[] #[]))) [(.t 153), (.t 154), (.t 155)]),
  .op (some 152) (.mv (.t 156)),
  .op (some 157) (.ext (.t 152) 0),
  .op (some 158) (.ext (.t 152) 1),
  .op (some 23) (.alloc 26 (List.replicate 6 (.lit (.int .i64 (0))))),
  .op none (.store 6 (.t 23) (.t 157)),
  .op (some 24) (.mv (.t 158))])
 (.seq (.reg [.op (some 159) (.load 6 true (.t 21)),
  .op (some 160) (.load 6 true (.t 23)),
  .op (some 161) (.eqA true [.int, .int, .int, .int, .int, .int] (.t 159) (.t 160)),
  .op (some 162) (.mv (.t 161)),
  .grp 162 false [((some 163), (.mv (.t 22))), ((some 164), (.mv (.t 24))), ((some 165), (.binB true (.t 163) (.t 164)))],
  .op (some 166) (.pick (.t 162) (.v (.lit (.bool true))) (.t 165)),
  .op (some 167) (.mv (.t 166)),
  .grp 167 false [((some 168), (.mv (.t 22))), ((some 169), (.load 6 true (.t 18))), ((some 170), (.call (.v (.lit (.func (.func 17) #[] #[]))) [(.t 169)])), ((some 171), (.binB true (.t 168) (.t 170)))],
  .op (some 172) (.pick (.t 167) (.v (.lit (.bool true))) (.t 171))])
 (.cond (.t 172)
 (.seq (.reg [.op (some 2) (.mv (.v (.lit (.bool false))))])
 .ret)
 .skip)))
 (.seq (.reg [.op (some 174) (.mv (.t 0)),
  .op (some 175) (.call (.v (.lit (.func (.func 18) #[] #[]))) [(.t 174)]),
  .op (some 173) (.mv (.t 175)),
  .op (some 176) (.ext (.t 173) 0),
  .op (some 177) (.ext (.t 173) 1),
  .op (some 25) (.alloc 26 (List.replicate 6 (.lit (.int .i64 (0))))),
  .op (some 26) (.alloc 27 [(.lit (.int .i64 (0))), (.lit (.int .i64 (0)))]),
  .op none (.store 6 (.t 25) (.t 176)),
  .op none (.store 2 (.t 26) (.t 177))])
 (.seq (.reg [.op (some 179) (.load 6 true (.t 25)),
  .op (some 180) (.load 2 true (.t 26)),
  .op (some 181) (.call (.v (.lit (.func (.func 19) #[] #[]))) [(.t 179), (.t 180)]),
  .op (some 178) (.mv (.t 181)),
  .op (some 182) (.ext (.t 178) 0),
  .op (some 183) (.ext (.t 178) 1),
  .op (some 27) (.alloc 26 (List.replicate 6 (.lit (.int .i64 (0))))),
  .op none (.store 6 (.t 27) (.t 182)),
  .op (some 28) (.mv (.t 183))])
 (.seq (.seq (.reg [.op (some 185) (.load 6 true (.t 25)),
  .op (some 186) (.load 2 true (.t 26)),
  .op (some 187) (.call (.v (.lit (.func (.func 20) #[] #[]))) [(.t 185), (.t 186)]),
  .op (some 184) (.mv (.t 187)),
  .op (some 188) (.ext (.t 184) 0),
  .op (some 189) (.ext (.t 184) 1),
  .op (some 29) (.alloc 26 (List.replicate 6 (.lit (.int .i64 (0))))),
  .op none (.store 6 (.t 29) (.t 188)),
  .op (some 30) (.mv (.t 189))])
 (.seq (.reg [.op (some 190) (.load 6 true (.t 27)),
  .op (some 191) (.load 6 true (.t 29)),
  .op (some 192) (.eqA true [.int, .int, .int, .int, .int, .int] (.t 190) (.t 191)),
  .op (some 193) (.mv (.t 192)),
  .grp 193 false [((some 194), (.mv (.t 28))), ((some 195), (.mv (.t 30))), ((some 196), (.binB true (.t 194) (.t 195)))],
  .op (some 197) (.pick (.t 193) (.v (.lit (.bool true))) (.t 196))])
 (.cond (.t 197)
 (.seq (.reg [.op (some 2) (.mv (.v (.lit (.bool false))))])
 .ret)
 .skip)))
 (.seq (.reg [.op (some 199) (.load 6 true (.t 25)),
  .op (some 200) (.load 2 true (.t 26)),
  .op (some 201) (.call (.v (.lit (.func (.func 21) #[] #[]))) [(.t 199), (.t 200)]),
  .op (some 198) (.mv (.t 201)),
  .op (some 202) (.ext (.t 198) 0),
  .op (some 203) (.ext (.t 198) 1),
  .op (some 31) (.mv (.t 202)),
  .op (some 32) (.mv (.t 203))])
 (.seq (.seq (.reg [.op (some 205) (.load 6 true (.t 25)),
  .op (some 206) (.load 2 true (.t 26)),
  .op (some 207) (.call (.v (.lit (.func (.func 22) #[] #[]))) [(.t 205), (.t 206)]),
  .op (some 204) (.mv (.t 207)),
  .op (some 208) (.ext (.t 204) 0),
  .op (some 209) (.ext (.t 204) 1),
  .op (some 33) (.mv (.t 208)),
  .op (some 34) (.mv (.t 209))])
 (.seq (.reg [.op (some 210) (.mv (.t 31)),
  .op (some 211) (.mv (.t 33)),
  .op (some 212) (.binB true (.t 210) (.t 211)),
  .op (some 213) (.mv (.t 212)),
  .grp 213 false [((some 214), (.mv (.t 32))), ((some 215), (.mv (.t 34))), ((some 216), (.binB true (.t 214) (.t 215)))],
  .op (some 217) (.pick (.t 213) (.v (.lit (.bool true))) (.t 216)),
  .op (some 218) (.mv (.t 217)),
  .grp 218 false [((some 219), (.mv (.t 32))), ((some 220), (.mv (.t 28))), ((some 221), (.binB true (.t 219) (.t 220)))],
  .op (some 222) (.pick (.t 218) (.v (.lit (.bool true))) (.t 221))])
 (.cond (.t 222)
 (.seq (.reg [.op (some 2) (.mv (.v (.lit (.bool false))))])
 .ret)
 .skip)))
 (.seq (.seq (.reg [.op (some 223) (.mv (.t 28))])
 (.cond (.t 223)
 (.seq (.reg [.op (some 225) (.load 6 true (.t 27)),
  .op (some 226) (.load 2 true (.t 26)),
  .op (some 227) (.call (.v (.lit (.func (.func 21) #[] #[]))) [(.t 225), (.t 226)]),
  .op (some 224) (.mv (.t 227)),
  .op (some 228) (.ext (.t 224) 0),
  .op (some 229) (.ext (.t 224) 1),
  .op (some 35) (.mv (.t 228)),
  .op (some 36) (.mv (.t 229))])
 (.seq (.reg [.op (some 231) (.load 6 true (.t 27)),
  .op (some 232) (.load 2 true (.t 26)),
  .op (some 233) (.call (.v (.lit (.func (.func 19) #[] #[]))) [(.t 231), (.t 232)]),
  .op (some 230) (.mv (.t 233)),
  .op (some 234) (.ext (.t 230) 0),
  .op (some 235) (.ext (.t 230) 1),
  .op (some 37) (.alloc 26 (List.replicate 6 (.lit (.int .i64 (0))))),
  .op none (.store 6 (.t 37) (.t 234)),
  .op (some 38) (.mv (.t 235))])
 (.seq (.reg [.op (some 236) (.mv (.t 36)),
  .op (some 237) (.un .not (.t 236)),
  .op (some 238) (.mv (.t 237)),
  .grp 238 false [((some 239), (.mv (.t 38))), ((some 240), (.un .not (.t 239)))],
  .op (some 241) (.pick (.t 238) (.v (.lit (.bool true))) (.t 240)),
  .op (some 242) (.mv (.t 241)),
  .grp 242 false [((some 243), (.mv (.t 35))), ((some 244), (.mv (.t 31))), ((some 245), (.binB false (.t 243) (.t 244)))],
  .op (some 246) (.pick (.t 242) (.v (.lit (.bool true))) (.t 245)),
  .op (some 247) (.mv (.t 246)),
  .grp 247 false [((some 248), (.load 6 true (.t 37))), ((some 249), (.load 6 true (.t 25))), ((some 250), (.eqA true [.int, .int, .int, .int, .int, .int] (.t 248) (.t 249)))],
  .op (some 251) (.pick (.t 247) (.v (.lit (.bool true))) (.t 250))])
 (.cond (.t 251)
 (.seq (.reg [.op (some 2) (.mv (.v (.lit (.bool false))))])
 .ret)
 .skip))))
 .skip))
 (.seq (.seq (.reg [.op (some 252) (.mv (.t 22))])
 (.cond (.t 252)
 (.seq (.reg [.op (some 254) (.load 6 true (.t 18)),
  .op (some 255) (.call (.v (.lit (.func (.func 23) #[] #[]))) [(.t 254)]),
  .op (some 253) (.mv (.t 255)),
  .op (some 256) (.ext (.t 253) 0),
  .op (some 257) (.ext (.t 253) 1),
  .op (some 39) (.mv (.t 256)),
  .op (some 40) (.mv (.t 257))])
 (.seq (.reg [.op (some 259) (.load 6 true (.t 21)),
  .op (some 260) (.call (.v (.lit (.func (.func 23) #[] #[]))) [(.t 259)]),
  .op (some 258) (.mv (.t 260)),
  .op (some 261) (.ext (.t 258) 0),
  .op (some 262) (.ext (.t 258) 1),
  .op (some 41) (.mv (.t 261)),
  .op (some 42) (.mv (.t 262))])
 (.seq (.seq (.reg [.op (some 263) (.mv (.t 40)),
  .op (some 264) (.un .not (.t 263)),
  .op (some 265) (.mv (.t 264)),
  .grp 265 false [((some 266), (.mv (.t 42))), ((some 267), (.un .not (.t 266)))],
  .op (some 268) (.pick (.t 265) (.v (.lit (.bool true))) (.t 267)),
  .op (some 269) (.mv (.t 268)),
  .grp 269 false [((some 270), (.mv (.t 39))), ((some 271), (.mv (.t 41))), ((some 272), (.binI .neq (.t 270) (.t 271)))],
  .op (some 273) (.pick (.t 269) (.v (.lit (.bool true))) (.t 272))])
 (.cond (.t 273)
 (.seq (.reg [.op (some 2) (.mv (.v (.lit (.bool false))))])
 .ret)
 .skip))
 (.seq (.reg [.op (some 274) (.mv (.t 19)),
  .op (some 275) (.binI .gtr (.t 274) (.v (.lit (.int .i64 (-1000))))),
  .op (some 276) (.mv (.t 275)),
  .grp 276 true [((some 277), (.mv (.t 19))), ((some 278), (.binI .lss (.t 277) (.v (.lit (.int .i64 (1000))))))],
  .op (some 279) (.pick (.t 276) (.t 278) (.v (.lit (.bool false))))])
 (.cond (.t 279)
 (.seq (.reg [.op (some 281) (.load 6 true (.t 21)),
  .op (some 282) (.mv (.t 19)),
  .op (some 283) (.un .neg (.t 282)),
  .op (some 284) (.mv (.t 20)),
  .op (some 285) (.un .neg (.t 284)),
  .op (some 286) (.call (.v (.lit (.func (.func 15) #[] #[]))) [(.t 281), (.t 283), (.t 285)]),
  .op (some 280) (.mv (.t 286)),
  .op (some 287) (.ext (.t 280) 0),
  .op (some 288) (.ext (.t 280) 1),
  .op (some 43) (.alloc 26 (List.replicate 6 (.lit (.int .i64 (0))))),
  .op none (.store 6 (.t 43) (.t 287)),
  .op (some 44) (.mv (.t 288))])
 (.seq (.reg [.op (some 290) (.load 6 true (.t 18)),
  .op (some 291) (.mv (.t 19)),
  .op (some 292) (.binI .add (.t 291) (.v (.lit (.int .i64 (6))))),
  .op (some 293) (.mv (.t 20)),
  .op (some 294) (.binI .sub (.t 293) (.v (.lit (.int .i64 (6))))),
  .op (some 295) (.call (.v (.lit (.func (.func 15) #[] #[]))) [(.t 290), (.t 292), (.t 294)]),
  .op (some 289) (.mv (.t 295)),
  .op (some 296) (.ext (.t 289) 0),
  .op (some 297) (.ext (.t 289) 1),
  .op (some 45) (.alloc 26 (List.replicate 6 (.lit (.int .i64 (0))))),
  .op none (.store 6 (.t 45) (.t 296)),
  .op (some 46) (.mv (.t 297))])
 (.seq (.reg [.op (some 298) (.mv (.t 44)),
  .op (some 299) (.un .not (.t 298)),
  .op (some 300) (.mv (.t 299)),
  .grp 300 false [((some 301), (.mv (.t 46))), ((some 302), (.un .not (.t 301)))],
  .op (some 303) (.pick (.t 300) (.v (.lit (.bool true))) (.t 302)),
  .op (some 304) (.mv (.t 303)),
  .grp 304 false [((some 305), (.load 6 true (.t 43))), ((some 306), (.load 6 true (.t 18))), ((some 307), (.eqA true [.int, .int, .int, .int, .int, .int] (.t 305) (.t 306)))],
  .op (some 308) (.pick (.t 304) (.v (.lit (.bool true))) (.t 307)),
  .op (some 309) (.mv (.t 308)),
  .grp 309 false [((some 310), (.load 6 true (.t 45))), ((some 311), (.load 6 true (.t 21))), ((some 312), (.eqA true [.int, .int, .int, .int, .int, .int] (.t 310) (.t 311)))],
  .op (some 313) (.pick (.t 309) (.v (.lit (.bool true))) (.t 312))])
 (.cond (.t 313)
 (.seq (.reg [.op (some 2) (.mv (.v (.lit (.bool false))))])
 .ret)
 .skip))))
 .skip)))))
 .skip))
 (.seq (.seq (.reg [.op (some 314) (.mv (.t 7)),
  .op (some 315) (.un .not (.t 314))])
 (.cond (.t 315)
 (.seq (.reg [.op (some 2) (.mv (.v (.lit (.bool true))))])
 .ret)
 .skip))
 (.seq (.reg [.op (some 317) (.load 6 true (.t 4)),
  .op (some 318) (.iaddrA 2 1 (.t 5) (.v (.lit (.int .i64 (0))))),
  .op (some 319) (.load 1 false (.t 318)),
  .op (some 320) (.iaddrA 2 1 (.t 5) (.v (.lit (.int .i64 (1))))),
  .op (some 321) (.load 1 false (.t 320)),
  .op (some 322) (.call (.v (.lit (.func (.func 15) #[] #[]))) [(.t 317), (.t 319), (.t 321)]),
  .op (some 316) (.mv (.t 322)),
  .op (some 323) (.ext (.t 316) 0),
  .op (some 324) (.ext (.t 316) 1),
  .op (some 47) (.alloc 26 (List.replicate 6 (.lit (.int .i64 (0))))),
  .op none (.store 6 (.t 47) (.t 323)),
  .op (some 48) (.mv (.t 324))])
 (.seq (.reg [.op (some 326) (.load 6 true (.t 6)),
  .op (some 327) (.load 6 true (.t 4)),
  .op (some 328) (.load 2 true (.t 5)),
  .op (some 329) (.call (.v (.lit (.func (.func 8) #[] #[]))) [(.t 326), (.t 327), (.t 328)]),
  .op (some 325) (.mv (.t 329)),
  .op (some 330) (.ext (.t 325) 0),
  .op (some 331) (.ext (.t 325) 1),
  .op (some 49) (.alloc 26 (List.replicate 6 (.lit (.int .i64 (0))))),
  .op none (.store 6 (.t 49) (.t 330)),
  .op (some 50) (.mv (.t 331))])
 (.seq (.reg [.op (some 333) (.load 6 true (.t 47)),
  .op (some 334) (.load 6 true (.t 10)),
  .op (some 335) (.call (.v (.lit (.func (.func 24) #[] #[]))) [(.t 333), (.t 334)]),
  .op (some 332) (.mv (.t 335)),
  .op (some 336) (.ext (.t 332) 0),
  .op (some 337) (.ext (.t 332) 1),
  .op (some 51) (.mv (.t 336)),
  .op (some 52) (.mv (.t 337))])
 (.seq (.reg [.op (some 339) (.load 6 true (.t 47)),
  .op (some 340) (.load 6 true (.t 14)),
  .op (some 341) (.call (.v (.lit (.func (.func 25) #[] #[]))) [(.t 339), (.t 340)]),
  .op (some 338) (.mv (.t 341)),
  .op (some 342) (.ext (.t 338) 0),
  .op (some 343) (.ext (.t 338) 1),
  .op (some 53) (.alloc 26 (List.replicate 6 (.lit (.int .i64 (0))))),
  .op none (.store 6 (.t 53) (.t 342)),
  .op (some 54) (.mv (.t 343))])
 (.seq (.reg [.op (some 344) (.mv (.t 48)),
  .op (some 345) (.mv (.t 344)),
  .grp 345 true [((some 346), (.mv (.t 50)))],
  .op (some 347) (.pick (.t 345) (.t 346) (.v (.lit (.bool false)))),
  .op (some 348) (.mv (.t 347)),
  .grp 348 true [((some 349), (.mv (.t 52)))],
  .op (some 350) (.pick (.t 348) (.t 349) (.v (.lit (.bool false)))),
  .op (some 351) (.mv (.t 350)),
  .grp 351 true [((some 352), (.mv (.t 54)))],
  .op (some 353) (.pick (.t 351) (.t 352) (.v (.lit (.bool false)))),
  .op (some 354) (.mv (.t 353)),
  .grp 354 true [((some 355), (.load 6 true (.t 49))), ((some 356), (.load 6 true (.t 3))), ((some 357), (.eqA false [.int, .int, .int, .int, .int, .int] (.t 355) (.t 356)))],
  .op (some 358) (.pick (.t 354) (.t 357) (.v (.lit (.bool false)))),
  .op (some 359) (.mv (.t 358)),
  .grp 359 true [((some 360), (.mv (.t 51)))],
  .op (some 361) (.pick (.t 359) (.t 360) (.v (.lit (.bool false)))),
  .op (some 362) (.mv (.t 361)),
  .grp 362 true [((some 363), (.load 6 true (.t 53))), ((some 364), (.build (List.replicate 6 (.lit (.int .i64 (0)))) [])), ((some 365), (.eqA false [.int, .int, .int, .int, .int, .int] (.t 363) (.t 364)))],
  .op (some 366) (.pick (.t 362) (.t 365) (.v (.lit (.bool false)))),
  .op (some 2) (.mv (.t 366))])
 .ret)))))))))))))))))))))))))
def rs3 : List RR := [.tmp 2]
def cut3 : Nat → Nat := fun id => 0
theorem k3 : (Try.f3.body.bind fun c => comp Try.prog Try.f3.ntmps cut3 c) = some r3 := by kernel_rfl
theorem by3 {W0 : World} {σ : List Blk} {args : List AV} {K : Cont} (hn : args.length ≤ 367) (h : rW Try.prog W0 σ.length r3 (initFr args) σ (finP W0 rs3 σ.length K)) : ACall Try.prog W0 3 args σ K :=
  ACall.introR mixed Try.func3 (by kernel_rfl) k3 (by kernel_rfl) hn h
def r4 : RC := (.seq (.reg [.op (some 2) (.mv (.v (.lit (.bool false))))])
 (.seq (.seq (.reg [.op (some 29) (.mv (.t 0)),
  .op (some 30) (.call (.v (.lit (.func (.func 26) #[] #[]))) [(.t 29)])])
 (.cond (.t 30)
 (.seq (.reg [.op (some 2) (.mv (.v (.lit (.bool true))))])
 .ret)
 .skip))
 (.seq (.reg [.op (some 32) (.mv (.t 0)),
  .op (some 33) (.call (.v (.lit (.func (.func 27) #[] #[]))) [(.t 32)]),
  .op (some 31) (.mv (.t 33)),
  .op (some 34) (.ext (.t 31) 0),
  .op (some 35) (.ext (.t 31) 1),
  .op (some 3) (.alloc 26 (List.replicate 6 (.lit (.int .i64 (0))))),
  .op (some 4) (.alloc 26 (List.replicate 6 (.lit (.int .i64 (0))))),
  .op none (.store 6 (.t 3) (.t 34)),
  .op none (.store 6 (.t 4) (.t 35))])
 (.seq (.reg [.op (some 37) (.load 6 true (.t 3)),
  .op (some 38) (.load 6 true (.t 4)),
  .op (some 39) (.call (.v (.lit (.func (.func 28) #[] #[]))) [(.t 37), (.t 38)]),
  .op (some 36) (.mv (.t 39)),
  .op (some 40) (.ext (.t 36) 0),
  .op (some 41) (.ext (.t 36) 1),
  .op (some 5) (.alloc 48 (List.replicate 14 (.lit (.int .i64 (0))))),
  .op none (.store 14 (.t 5) (.t 40)),
  .op (some 6) (.mv (.t 41))])
 (.seq (.reg [.op (some 43) (.load 6 true (.t 3)),
  .op (some 44) (.load 6 true (.t 4)),
  .op (some 45) (.call (.v (.lit (.func (.func 29) #[] #[]))) [(.t 43), (.t 44)]),
  .op (some 42) (.mv (.t 45)),
  .op (some 46) (.ext (.t 42) 0),
  .op (some 47) (.ext (.t 42) 1),
  .op (some 7) (.alloc 48 (List.replicate 14 (.lit (.int .i64 (0))))),
  .op none (.store 14 (.t 7) (.t 46)),
  .op (some 8) (.mv (.t 47))])
 (.seq (.reg [.op (some 49) (.mv (.t 0)),
  .op (some 50) (.call (.v (.lit (.func (.func 31) #[] #[]))) [(.t 49), (.v (.lit (.int .i64 (1))))]),
  .op (some 51) (.call (.v (.lit (.func (.func 30) #[] #[]))) [(.t 50)]),
  .op (some 48) (.mv (.t 51)),
  .op (some 52) (.ext (.t 48) 0),
  .op (some 53) (.ext (.t 48) 1),
  .op (some 9) (.alloc 48 (List.replicate 14 (.lit (.int .i64 (0))))),
  .op (some 10) (.alloc 52 [(.lit (.int .i64 (0))), (.lit (.int .i64 (0))), (.lit (.int .i64 (0)))]),
  .op none (.store 14 (.t 9) (.t 52)),
  .op none (.store 3 (.t 10) (.t 53))])
 (.seq (.reg [.op (some 55) (.load 14 true (.t 9)),
  .op (some 56) (.load 3 true (.t 10)),
  .op (some 57) (.call (.v (.lit (.func (.func 32) #[] #[]))) [(.t 55), (.t 56)]),
  .op (some 54) (.mv (.t 57)),
  .op (some 58) (.ext (.t 54) 0),
  .op (some 59) (.ext (.t 54) 1),
  .op (some 11) (.alloc 48 (List.replicate 14 (.lit (.int .i64 (0))))),
  .op none (.store 14 (.t 11) (.t 58)),
  .op (some 12) (.mv (.t 59))])
 (.seq (.reg [.op (some 61) (.load 14 true (.t 9)),
  .op (some 62) (.load 3 true (.t 10)),
  .op (some 63) (.call (.v (.lit (.func (.func 33) #[] #[]))) [(.t 61), (.t 62)]),
  .op (some 60) (.mv (.t 63)),
  .op (some 64) (.ext (.t 60) 0),
  .op (some 65) (.ext (.t 60) 1),
  .op (some 13) (.alloc 48 (List.replicate 14 (.lit (.int .i64 (0))))),
  .op none (.store 14 (.t 13) (.t 64)),
  .op (some 14) (.mv (.t 65))])
 (.seq (.reg [.op (some 67) (.mv (.t 0)),
  .op (some 68) (.call (.v (.lit (.func (.func 31) #[] #[]))) [(.t 67), (.v (.lit (.int .i64 (2))))]),
  .op (some 69) (.call (.v (.lit (.func (.func 34) #[] #[]))) [(.t 68)]),
  .op (some 66) (.mv (.t 69)),
  .op (some 70) (.ext (.t 66) 0),
  .op (some 71) (.ext (.t 66) 1),
  .op (some 15) (.alloc 48 (List.replicate 14 (.lit (.int .i64 (0))))),
  .op none (.store 14 (.t 15) (.t 70)),
  .op (some 16) (.mv (.t 71))])
 (.seq (.reg [.op (some 73) (.load 14 true (.t 15)),
  .op (some 74) (.mv (.t 16)),
  .op (some 75) (.call (.v (.lit (.func (.func 35) #[] #[]))) [(.t 73), (.t 74)]),
  .op (some 72) (.mv (.t 75)),
  .op (some 76) (.ext (.t 72) 0),
  .op (some 77) (.ext (.t 72) 1),
  .op (some 78) (.ext (.t 72) 2),
  .op (some 17) (.alloc 48 (List.replicate 14 (.lit (.int .i64 (0))))),
  .op none (.store 14 (.t 17) (.t 76)),
  .op (some 18) (.mv (.t 77)),
  .op (some 19) (.mv (.t 78))])
 (.seq (.reg [.op (some 80) (.load 14 true (.t 15)),
  .op (some 81) (.mv (.t 16)),
  .op (some 82) (.call (.v (.lit (.func (.func 36) #[] #[]))) [(.t 80), (.t 81)]),
  .op (some 79) (.mv (.t 82)),
  .op (some 83) (.ext (.t 79) 0),
  .op (some 84) (.ext (.t 79) 1),
  .op (some 85) (.ext (.t 79) 2),
  .op (some 20) (.alloc 48 (List.replicate 14 (.lit (.int .i64 (0))))),
  .op none (.store 14 (.t 20) (.t 83)),
  .op (some 21) (.mv (.t 84)),
  .op (some 22) (.mv (.t 85))])
 (.seq (.reg [.op (some 87) (.load 14 true (.t 9)),
  .op (some 88) (.call (.v (.lit (.func (.func 37) #[] #[]))) [(.t 87)]),
  .op (some 86) (.mv (.t 88)),
  .op (some 89) (.ext (.t 86) 0),
  .op (some 90) (.ext (.t 86) 1),
  .op (some 23) (.mv (.t 89)),
  .op (some 24) (.mv (.t 90))])
 (.seq (.reg [.op (some 92) (.load 14 true (.t 9)),
  .op (some 93) (.call (.v (.lit (.func (.func 38) #[] #[]))) [(.t 92)]),
  .op (some 91) (.mv (.t 93)),
  .op (some 94) (.ext (.t 91) 0),
  .op (some 95) (.ext (.t 91) 1),
  .op (some 25) (.mv (.t 94)),
  .op (some 26) (.mv (.t 95))])
 (.seq (.seq (.quiet [.op (some 96) (.load 14 true (.t 5)),
  .op (some 97) (.load 14 true (.t 7)),
  .op (some 98) (.eqA true [.int, .int, .int, .int, .int, .int, .int, .int, .int, .int, .int, .int, .int, .int] (.t 96) (.t 97)),
  .op (some 99) (.mv (.t 98)),
  .grp 99 false [((some 100), (.mv (.t 6))), ((some 101), (.mv (.t 8))), ((some 102), (.binB true (.t 100) (.t 101)))],
  .op (some 103) (.pick (.t 99) (.v (.lit (.bool true))) (.t 102)),
  .op (some 104) (.mv (.t 103)),
  .grp 104 false [((some 105), (.load 14 true (.t 11))), ((some 106), (.load 14 true (.t 13))), ((some 107), (.eqA true [.int, .int, .int, .int, .int, .int, .int, .int, .int, .int, .int, .int, .int, .int] (.t 105) (.t 106)))],
  .op (some 108) (.pick (.t 104) (.v (.lit (.bool true))) (.t 107)),
  .op (some 109) (.mv (.t 108)),
  .grp 109 false [((some 110), (.mv (.t 12))), ((some 111), (.mv (.t 14))), ((some 112), (.binB true (.t 110) (.t 111)))],
  .op (some 113) (.pick (.t 109) (.v (.lit (.bool true))) (.t 112)),
  .op (some 114) (.mv (.t 113)),
  .grp 114 false [((some 115), (.load 14 true (.t 17))), ((some 116), (.load 14 true (.t 20))), ((some 117), (.eqA true [.int, .int, .int, .int, .int, .int, .int, .int, .int, .int, .int, .int, .int, .int] (.t 115) (.t 116)))],
  .op (some 118) (.pick (.t 114) (.v (.lit (.bool true))) (.t 117)),
  .op (some 119) (.mv (.t 118)),
  .grp 119 false [((some 120), (.mv (.t 19))), ((some 121), (.mv (.t 22))), ((some 122), (.binB true (.t 120) (.t 121)))],
  .op (some 123) (.pick (.t 119) (.v (.lit (.bool true))) (.t 122)),
  .op (some 124) (.mv (.t 123)),
  .grp 124 false [((some 125), (.mv (.t 18))), ((some 126), (.mv (.t 21))), ((some 127), (.binI .neq (.t 125) (.t 126)))],
  .op (some 128) (.pick (.t 124) (.v (.lit (.bool true))) (.t 127)),
  .op (some 129) (.mv (.t 128)),
  .grp 129 false [((some 130), (.mv (.t 23))), ((some 131), (.mv (.t 25))), ((some 132), (.binI .neq (.t 130) (.t 131)))],
  .op (some 133) (.pick (.t 129) (.v (.lit (.bool true))) (.t 132)),
  .op (some 134) (.mv (.t 133)),
  .grp 134 false [((some 135), (.mv (.t 24))), ((some 136), (.mv (.t 26))), ((some 137), (.binB true (.t 135) (.t 136)))],
  .op (some 138) (.pick (.t 134) (.v (.lit (.bool true))) (.t 137)),
  .op (some 139) (.mv (.t 138)),
  .grp 139 false [((some 140), (.load 14 true (.t 9))), ((some 141), (.call (.v (.lit (.func (.func 39) #[] #[]))) [(.t 140)])), ((some 142), (.load 14 true (.t 9))), ((some 143), (.call (.v (.lit (.func (.func 40) #[] #[]))) [(.t 142)])), ((some 144), (.binB true (.t 141) (.t 143)))],
  .op (some 145) (.pick (.t 139) (.v (.lit (.bool true))) (.t 144)),
  .op (some 146) (.mv (.t 145)),
  .grp 146 false [((some 147), (.mv (.t 24))), ((some 148), (.load 14 true (.t 9))), ((some 149), (.call (.v (.lit (.func (.func 39) #[] #[]))) [(.t 148)])), ((some 150), (.binB true (.t 147) (.t 149)))],
  .op (some 151) (.pick (.t 146) (.v (.lit (.bool true))) (.t 150))] [])
 (.cond (.t 151)
 (.seq (.reg [.op (some 2) (.mv (.v (.lit (.bool false))))])
 .ret)
 .skip))
 (.seq (.seq (.reg [.op (some 152) (.mv (.t 19)),
  .op (some 153) (.mv (.t 152)),
  .grp 153 true [((some 154), (.load 14 true (.t 17))), ((some 155), (.call (.v (.lit (.func (.func 39) #[] #[]))) [(.t 154)])), ((some 156), (.un .not (.t 155)))],
  .op (some 157) (.pick (.t 153) (.t 156) (.v (.lit (.bool false))))])
 (.cond (.t 157)
 (.seq (.reg [.op (some 2) (.mv (.v (.lit (.bool false))))])
 .ret)
 .skip))
 (.seq (.seq (.reg [.op (some 158) (.mv (.t 12)),
  .op (some 159) (.un .not (.t 158))])
 (.cond (.t 159)
 (.seq (.reg [.op (some 2) (.mv (.v (.lit (.bool true))))])
 .ret)
 .skip))
 (.seq (.seq (.reg [.op (some 160) (.load 14 true (.t 11)),
  .op (some 161) (.call (.v (.lit (.func (.func 39) #[] #[]))) [(.t 160)]),
  .op (some 162) (.un .not (.t 161)),
  .op (some 163) (.mv (.t 162)),
  .grp 163 false [((some 164), (.faddr 13 (.t 11))), ((some 165), (.load 1 false (.t 164))), ((some 166), (.faddr 13 (.t 9))), ((some 167), (.load 1 false (.t 166))), ((some 168), (.binI .add (.t 167) (.v (.lit (.int .i64 (1)))))), ((some 169), (.binI .neq (.t 165) (.t 168)))],
  .op (some 170) (.pick (.t 163) (.v (.lit (.bool true))) (.t 169))])
 (.cond (.t 170)
 (.seq (.reg [.op (some 2) (.mv (.v (.lit (.bool false))))])
 .ret)
 .skip))
 (.seq (.reg [.op (some 172) (.load 14 true (.t 11)),
  .op (some 173) (.load 3 true (.t 10)),
  .op (some 174) (.call (.v (.lit (.func (.func 32) #[] #[]))) [(.t 172), (.t 173)]),
  .op (some 171) (.mv (.t 174)),
  .op (some 175) (.ext (.t 171) 0),
  .op (some 176) (.ext (.t 171) 1),
  .op (some 27) (.alloc 48 (List.replicate 14 (.lit (.int .i64 (0))))),
  .op none (.store 14 (.t 27) (.t 175)),
  .op (some 28) (.mv (.t 176))])
 (.seq (.seq (.reg [.op (some 177) (.mv (.t 28)),
  .op (some 178) (.un .not (.t 177))])
 (.cond (.t 178)
 (.seq (.reg [.op (some 179) (.faddr 13 (.t 11)),
  .op (some 180) (.load 1 false (.t 179)),
  .op (some 181) (.binI .eql (.t 180) (.v (.lit (.int .i64 (1000))))),
  .op (some 182) (.mv (.t 181)),
  .grp 182 false [((some 183), (.faddr 12 (.t 11))), ((some 184), (.load 1 false (.t 183))), ((some 185), (.binI .eql (.t 184) (.v (.lit (.int .i64 (1000))))))],
  .op (some 186) (.pick (.t 182) (.v (.lit (.bool true))) (.t 185)),
  .op (some 2) (.mv (.t 186))])
 .ret)
 .skip))
 (.seq (.seq (.reg [.op (some 187) (.faddr 0 (.t 10)),
  .op (some 188) (.load 1 false (.t 187))])
 (.block 0 (.seq (.reg [.op (some 190) (.binI .eql (.t 188) (.v (.lit (.int .i64 (1))))),
  .op (some 189) (.mv (.t 190))])
 (.cond (.t 189)
 (.seq (.reg [.op (some 191) (.faddr 0 (.t 27)),
  .op (some 192) (.load 6 true (.t 191)),
  .op (some 193) (.faddr 0 (.t 9)),
  .op (some 194) (.load 6 true (.t 193)),
  .op (some 195) (.eqA false [.int, .int, .int, .int, .int, .int] (.t 192) (.t 194)),
  .op (some 196) (.mv (.t 195)),
  .grp 196 true [((some 197), (.faddr 6 (.t 27))), ((some 198), (.load 6 true (.t 197))), ((some 199), (.faddr 6 (.t 9))), ((some 200), (.load 6 true (.t 199))), ((some 201), (.eqA false [.int, .int, .int, .int, .int, .int] (.t 198) (.t 200)))],
  .op (some 202) (.pick (.t 196) (.t 201) (.v (.lit (.bool false)))),
  .op (some 2) (.mv (.t 202))])
 .ret)
 (.seq (.seq (.reg [.op (some 204) (.binI .eql (.t 188) (.v (.lit (.int .i64 (6))))),
  .op (some 203) (.mv (.t 204))])
 (.cond (.t 203)
 .skip
 (.reg [.op (some 205) (.binI .eql (.t 188) (.v (.lit (.int .i64 (7))))),
  .op (some 203) (.mv (.t 205))])))
 (.cond (.t 203)
 (.seq (.reg [.op (some 206) (.faddr 0 (.t 27)),
  .op (some 207) (.load 6 true (.t 206)),
  .op (some 208) (.faddr 0 (.t 9)),
  .op (some 209) (.load 6 true (.t 208)),
  .op (some 210) (.eqA false [.int, .int, .int, .int, .int, .int] (.t 207) (.t 209)),
  .op (some 211) (.mv (.t 210)),
  .grp 211 true [((some 212), (.faddr 6 (.t 27))), ((some 213), (.load 6 true (.t 212))), ((some 214), (.faddr 6 (.t 9))), ((some 215), (.load 6 true (.t 214))), ((some 216), (.eqA false [.int, .int, .int, .int, .int, .int] (.t 213) (.t 215)))],
  .op (some 217) (.pick (.t 211) (.t 216) (.v (.lit (.bool false)))),
  .op (some 218) (.mv (.t 217)),
  .grp 218 true [((some 219), (.faddr 12 (.t 27))), ((some 220), (.load 1 false (.t 219))), ((some 221), (.faddr 12 (.t 9))), ((some 222), (.load 1 false (.t 221))), ((some 223), (.binI .eql (.t 220) (.t 222)))],
  .op (some 224) (.pick (.t 218) (.t 223) (.v (.lit (.bool false)))),
  .op (some 2) (.mv (.t 224))])
 .ret)
 (.seq (.seq (.reg [.op (some 226) (.binI .eql (.t 188) (.v (.lit (.int .i64 (2))))),
  .op (some 225) (.mv (.t 226))])
 (.cond (.t 225)
 .skip
 (.reg [.op (some 227) (.binI .eql (.t 188) (.v (.lit (.int .i64 (3))))),
  .op (some 225) (.mv (.t 227))])))
 (.cond (.t 225)
 (.seq (.reg [.op (some 228) (.faddr 0 (.t 27)),
  .op (some 229) (.load 6 true (.t 228)),
  .op (some 230) (.faddr 0 (.t 11)),
  .op (some 231) (.load 6 true (.t 230)),
  .op (some 232) (.eqA false [.int, .int, .int, .int, .int, .int] (.t 229) (.t 231)),
  .op (some 233) (.mv (.t 232)),
  .grp 233 true [((some 234), (.faddr 12 (.t 11))), ((some 235), (.load 1 false (.t 234))), ((some 236), (.faddr 12 (.t 9))), ((some 237), (.load 1 false (.t 236))), ((some 238), (.binI .add (.t 237) (.v (.lit (.int .i64 (1)))))), ((some 239), (.binI .eql (.t 235) (.t 238)))],
  .op (some 240) (.pick (.t 233) (.t 239) (.v (.lit (.bool false)))),
  .op (some 2) (.mv (.t 240))])
 .ret)
 .skip))))))))
 (.seq (.reg [.op (some 241) (.faddr 12 (.t 27)),
  .op (some 242) (.load 1 false (.t 241)),
  .op (some 243) (.faddr 12 (.t 9)),
  .op (some 244) (.load 1 false (.t 243)),
  .op (some 245) (.binI .eql (.t 242) (.t 244)),
  .op (some 2) (.mv (.t 245))])
 .ret)))))))))))))))))))))
def cut4 : Nat → Nat := fun id => 0
theorem k4 : (Try.f4.body.bind fun c => comp Try.prog Try.f4.ntmps cut4 c) = some r4 := by kernel_rfl
def r5 : RC := (.seq (.reg [.op (some 2) (.mv (.v (.lit (.bool false))))])
 (.seq (.seq (.reg [.op (some 46) (.mv (.t 0)),
  .op (some 47) (.call (.v (.lit (.func (.func 6) #[] #[]))) [(.t 46)])])
 (.cond (.t 47)
 (.seq (.reg [.op (some 2) (.mv (.v (.lit (.bool true))))])
 .ret)
 .skip))
 (.seq (.reg [.op (some 48) (.mv (.t 0)),
  .op (some 49) (.call (.v (.lit (.func (.func 41) #[] #[]))) [(.t 48)]),
  .op (some 3) (.alloc 67 [(.lit (.int .i64 (0))), (.lit (.int .i64 (0))), (.lit (.int .i64 (0))), (.lit (.int .i64 (0))), (.lit (.int .i64 (0))), (.lit (.int .i64 (0))), (.lit (.slice none 0 0)), (.lit (.slice none 0 0))]),
  .op none (.store 8 (.t 3) (.t 49))])
 (.seq (.reg [.op (some 51) (.load 8 true (.t 3)),
  .op (some 52) (.call (.v (.lit (.func (.func 42) #[] #[]))) [(.t 51)]),
  .op (some 50) (.mv (.t 52)),
  .op (some 53) (.ext (.t 50) 0),
  .op (some 54) (.ext (.t 50) 1),
  .op (some 4) (.alloc 69 (List.replicate 36 (.lit (.int .i64 (0))))),
  .op none (.store 36 (.t 4) (.t 53)),
  .op (some 5) (.mv (.t 54))])
 (.seq (.seq (.reg [.op (some 56) (.load 8 true (.t 3)),
  .op (some 57) (.call (.v (.lit (.func (.func 43) #[] #[]))) [(.t 56)]),
  .op (some 55) (.mv (.t 57)),
  .op (some 58) (.ext (.t 55) 0),
  .op (some 59) (.ext (.t 55) 1),
  .op (some 6) (.alloc 69 (List.replicate 36 (.lit (.int .i64 (0))))),
  .op none (.store 36 (.t 6) (.t 58)),
  .op (some 7) (.mv (.t 59))])
 (.seq (.reg [.op (some 60) (.load 36 true (.t 4)),
  .op (some 61) (.load 36 true (.t 6)),
  .op (some 62) (.eqA true [.int, .int, .int, .int, .int, .int, .int, .int, .int, .int, .int, .int, .int, .int, .int, .int, .int, .int, .int, .int, .int, .int, .int, .int, .int, .int, .int, .int, .int, .int, .int, .int, .int, .int, .int, .int] (.t 60) (.t 61)),
  .op (some 63) (.mv (.t 62)),
  .grp 63 false [((some 64), (.mv (.t 5))), ((some 65), (.mv (.t 7))), ((some 66), (.binB true (.t 64) (.t 65)))],
  .op (some 67) (.pick (.t 63) (.v (.lit (.bool true))) (.t 66)),
  .op (some 68) (.mv (.t 67)),
  .grp 68 false [((some 69), (.mv (.t 5))), ((some 70), (.load 8 true (.t 3))), ((some 71), (.call (.v (.lit (.func (.func 44) #[] #[]))) [(.t 70)])), ((some 72), (.binB true (.t 69) (.t 71)))],
  .op (some 73) (.pick (.t 68) (.v (.lit (.bool true))) (.t 72))])
 (.cond (.t 73)
 (.seq (.reg [.op (some 2) (.mv (.v (.lit (.bool false))))])
 .ret)
 .skip)))
 (.seq (.reg [.op (some 75) (.load 8 true (.t 3)),
  .op (some 76) (.call (.v (.lit (.func (.func 45) #[] #[]))) [(.t 75)]),
  .op (some 74) (.mv (.t 76)),
  .op (some 77) (.ext (.t 74) 0),
  .op (some 78) (.ext (.t 74) 1),
  .op (some 8) (.mv (.t 77)),
  .op (some 9) (.mv (.t 78))])
 (.seq (.seq (.reg [.op (some 80) (.load 8 true (.t 3)),
  .op (some 81) (.call (.v (.lit (.func (.func 46) #[] #[]))) [(.t 80)]),
  .op (some 79) (.mv (.t 81)),
  .op (some 82) (.ext (.t 79) 0),
  .op (some 83) (.ext (.t 79) 1),
  .op (some 10) (.mv (.t 82)),
  .op (some 11) (.mv (.t 83))])
 (.seq (.reg [.op (some 84) (.mv (.t 9)),
  .op (some 85) (.mv (.t 11)),
  .op (some 86) (.binB true (.t 84) (.t 85)),
  .op (some 87) (.mv (.t 86)),
  .grp 87 false [((some 88), (.mv (.t 9))), ((some 89), (.mv (.t 5))), ((some 90), (.binB true (.t 88) (.t 89)))],
  .op (some 91) (.pick (.t 87) (.v (.lit (.bool true))) (.t 90)),
  .op (some 92) (.mv (.t 91)),
  .grp 92 false [((some 93), (.mv (.t 8))), ((some 94), (.mv (.t 10))), ((some 95), (.call (.v (.lit (.func (.func 47) #[] #[]))) [(.t 93), (.t 94)])), ((some 96), (.un .not (.t 95)))],
  .op (some 97) (.pick (.t 92) (.v (.lit (.bool true))) (.t 96))])
 (.cond (.t 97)
 (.seq (.reg [.op (some 2) (.mv (.v (.lit (.bool false))))])
 .ret)
 .skip)))
 (.seq (.reg [.op (some 99) (.load 8 true (.t 3)),
  .op (some 100) (.call (.v (.lit (.func (.func 48) #[] #[]))) [(.t 99)]),
  .op (some 98) (.mv (.t 100)),
  .op (some 101) (.ext (.t 98) 0),
  .op (some 102) (.ext (.t 98) 1),
  .op (some 12) (.alloc 67 [(.lit (.int .i64 (0))), (.lit (.int .i64 (0))), (.lit (.int .i64 (0))), (.lit (.int .i64 (0))), (.lit (.int .i64 (0))), (.lit (.int .i64 (0))), (.lit (.slice none 0 0)), (.lit (.slice none 0 0))]),
  .op none (.store 8 (.t 12) (.t 101)),
  .op (some 13) (.mv (.t 102))])
 (.seq (.seq (.reg [.op (some 104) (.load 8 true (.t 3)),
  .op (some 105) (.call (.v (.lit (.func (.func 49) #[] #[]))) [(.t 104)]),
  .op (some 103) (.mv (.t 105)),
  .op (some 106) (.ext (.t 103) 0),
  .op (some 107) (.ext (.t 103) 1),
  .op (some 14) (.alloc 67 [(.lit (.int .i64 (0))), (.lit (.int .i64 (0))), (.lit (.int .i64 (0))), (.lit (.int .i64 (0))), (.lit (.int .i64 (0))), (.lit (.int .i64 (0))), (.lit (.slice none 0 0)), (.lit (.slice none 0 0))]),
  .op none (.store 8 (.t 14) (.t 106)),
  .op (some 15) (.mv (.t 107))])
 (.seq (.reg [.op (some 108) (.mv (.t 13)),
  .op (some 109) (.mv (.t 15)),
  .op (some 110) (.binB true (.t 108) (.t 109)),
  .op (some 111) (.mv (.t 110)),
  .grp 111 false [((some 112), (.mv (.t 13))), ((some 113), (.mv (.t 5))), ((some 114), (.binB true (.t 112) (.t 113)))],
  .op (some 115) (.pick (.t 111) (.v (.lit (.bool true))) (.t 114)),
  .op (some 116) (.mv (.t 115)),
  .grp 116 false [((some 117), (.load 8 true (.t 12))), ((some 118), (.load 8 true (.t 14))), ((some 119), (.call (.v (.lit (.func (.func 50) #[] #[]))) [(.t 117), (.t 118)])), ((some 120), (.un .not (.t 119)))],
  .op (some 121) (.pick (.t 116) (.v (.lit (.bool true))) (.t 120))])
 (.cond (.t 121)
 (.seq (.reg [.op (some 2) (.mv (.v (.lit (.bool false))))])
 .ret)
 .skip)))
 (.seq (.reg [.op (some 123) (.mv (.t 0)),
  .op (some 124) (.call (.v (.lit (.func (.func 51) #[] #[]))) [(.t 123)]),
  .op (some 122) (.mv (.t 124)),
  .op (some 125) (.ext (.t 122) 0),
  .op (some 126) (.ext (.t 122) 1),
  .op (some 16) (.alloc 67 [(.lit (.int .i64 (0))), (.lit (.int .i64 (0))), (.lit (.int .i64 (0))), (.lit (.int .i64 (0))), (.lit (.int .i64 (0))), (.lit (.int .i64 (0))), (.lit (.slice none 0 0)), (.lit (.slice none 0 0))]),
  .op (some 17) (.alloc 67 [(.lit (.int .i64 (0))), (.lit (.int .i64 (0))), (.lit (.int .i64 (0))), (.lit (.int .i64 (0))), (.lit (.int .i64 (0))), (.lit (.int .i64 (0))), (.lit (.slice none 0 0)), (.lit (.slice none 0 0))]),
  .op none (.store 8 (.t 16) (.t 125)),
  .op none (.store 8 (.t 17) (.t 126))])
 (.seq (.reg [.op (some 128) (.load 8 true (.t 16)),
  .op (some 129) (.load 8 true (.t 17)),
  .op (some 130) (.call (.v (.lit (.func (.func 52) #[] #[]))) [(.t 128), (.t 129)]),
  .op (some 127) (.mv (.t 130)),
  .op (some 131) (.ext (.t 127) 0),
  .op (some 132) (.ext (.t 127) 1),
  .op (some 18) (.mv (.t 131)),
  .op (some 19) (.mv (.t 132))])
 (.seq (.seq (.reg [.op (some 134) (.load 8 true (.t 16)),
  .op (some 135) (.load 8 true (.t 17)),
  .op (some 136) (.call (.v (.lit (.func (.func 53) #[] #[]))) [(.t 134), (.t 135)]),
  .op (some 133) (.mv (.t 136)),
  .op (some 137) (.ext (.t 133) 0),
  .op (some 138) (.ext (.t 133) 1),
  .op (some 20) (.mv (.t 137)),
  .op (some 21) (.mv (.t 138))])
 (.seq (.reg [.op (some 139) (.mv (.t 18)),
  .op (some 140) (.mv (.t 20)),
  .op (some 141) (.binB true (.t 139) (.t 140)),
  .op (some 142) (.mv (.t 141)),
  .grp 142 false [((some 143), (.mv (.t 19))), ((some 144), (.mv (.t 21))), ((some 145), (.binB true (.t 143) (.t 144)))],
  .op (some 146) (.pick (.t 142) (.v (.lit (.bool true))) (.t 145))])
 (.cond (.t 146)
 (.seq (.reg [.op (some 2) (.mv (.v (.lit (.bool false))))])
 .ret)
 .skip)))
 (.seq (.reg [.op (some 148) (.mv (.t 0)),
  .op (some 149) (.call (.v (.lit (.func (.func 54) #[] #[]))) [(.t 148)]),
  .op (some 147) (.mv (.t 149)),
  .op (some 150) (.ext (.t 147) 0),
  .op (some 151) (.ext (.t 147) 1),
  .op (some 22) (.alloc 67 [(.lit (.int .i64 (0))), (.lit (.int .i64 (0))), (.lit (.int .i64 (0))), (.lit (.int .i64 (0))), (.lit (.int .i64 (0))), (.lit (.int .i64 (0))), (.lit (.slice none 0 0)), (.lit (.slice none 0 0))]),
  .op none (.store 8 (.t 22) (.t 150)),
  .op (some 23) (.mv (.t 151))])
 (.seq (.reg [.op (some 153) (.load 8 true (.t 22)),
  .op (some 154) (.mv (.t 23)),
  .op (some 155) (.call (.v (.lit (.func (.func 55) #[] #[]))) [(.t 153), (.t 154)]),
  .op (some 152) (.mv (.t 155)),
  .op (some 156) (.ext (.t 152) 0),
  .op (some 157) (.ext (.t 152) 1),
  .op (some 24) (.mv (.t 156)),
  .op (some 25) (.mv (.t 157))])
 (.seq (.seq (.reg [.op (some 159) (.load 8 true (.t 22)),
  .op (some 160) (.mv (.t 23)),
  .op (some 161) (.call (.v (.lit (.func (.func 56) #[] #[]))) [(.t 159), (.t 160)]),
  .op (some 158) (.mv (.t 161)),
  .op (some 162) (.ext (.t 158) 0),
  .op (some 163) (.ext (.t 158) 1),
  .op (some 26) (.mv (.t 162)),
  .op (some 27) (.mv (.t 163))])
 (.seq (.reg [.op (some 164) (.mv (.t 24)),
  .op (some 165) (.mv (.t 26)),
  .op (some 166) (.binB true (.t 164) (.t 165)),
  .op (some 167) (.mv (.t 166)),
  .grp 167 false [((some 168), (.mv (.t 25))), ((some 169), (.mv (.t 27))), ((some 170), (.binB true (.t 168) (.t 169)))],
  .op (some 171) (.pick (.t 167) (.v (.lit (.bool true))) (.t 170))])
 (.cond (.t 171)
 (.seq (.reg [.op (some 2) (.mv (.v (.lit (.bool false))))])
 .ret)
 .skip)))
 (.seq (.seq (.reg [.op (some 172) (.mv (.t 19))])
 (.cond (.t 172)
 (.seq (.reg [.op (some 174) (.load 8 true (.t 16)),
  .op (some 175) (.call (.v (.lit (.func (.func 42) #[] #[]))) [(.t 174)]),
  .op (some 173) (.mv (.t 175)),
  .op (some 176) (.ext (.t 173) 0),
  .op (some 177) (.ext (.t 173) 1),
  .op (some 28) (.alloc 69 (List.replicate 36 (.lit (.int .i64 (0))))),
  .op none (.store 36 (.t 28) (.t 176)),
  .op (some 29) (.mv (.t 177))])
 (.seq (.reg [.op (some 179) (.load 8 true (.t 17)),
  .op (some 180) (.call (.v (.lit (.func (.func 42) #[] #[]))) [(.t 179)]),
  .op (some 178) (.mv (.t 180)),
  .op (some 181) (.ext (.t 178) 0),
  .op (some 182) (.ext (.t 178) 1),
  .op (some 30) (.alloc 69 (List.replicate 36 (.lit (.int .i64 (0))))),
  .op none (.store 36 (.t 30) (.t 181)),
  .op (some 31) (.mv (.t 182))])
 (.seq (.reg [.op (some 183) (.mv (.t 29)),
  .op (some 184) (.un .not (.t 183)),
  .op (some 185) (.mv (.t 184)),
  .grp 185 false [((some 186), (.mv (.t 31))), ((some 187), (.un .not (.t 186)))],
  .op (some 188) (.pick (.t 185) (.v (.lit (.bool true))) (.t 187)),
  .op (some 189) (.mv (.t 188)),
  .grp 189 false [((some 190), (.mv (.t 18))), ((some 191), (.load 36 true (.t 28))), ((some 192), (.load 36 true (.t 30))), ((some 193), (.eqA false [.int, .int, .int, .int, .int, .int, .int, .int, .int, .int, .int, .int, .int, .int, .int, .int, .int, .int, .int, .int, .int, .int, .int, .int, .int, .int, .int, .int, .int, .int, .int, .int, .int, .int, .int, .int] (.t 191) (.t 192))), ((some 194), (.binB true (.t 190) (.t 193)))],
  .op (some 195) (.pick (.t 189) (.v (.lit (.bool true))) (.t 194))])
 (.cond (.t 195)
 (.seq (.reg [.op (some 2) (.mv (.v (.lit (.bool false))))])
 .ret)
 .skip))))
 .skip))
 (.seq (.seq (.reg [.op (some 196) (.mv (.t 25))])
 (.cond (.t 196)
 (.seq (.reg [.op (some 197) (.bslice 87 4 0 (List.replicate 4 (.lit (.int .i64 (0)))) []),
  .op (some 198) (.faddr 7 (.t 22)),
  .op (some 199) (.load 1 false (.t 198)),
  .op (some 200) (.append 65 87 4 32 (.t 197) (.t 199)),
  .op (some 32) (.mv (.t 200))])
 (.seq (.reg [.op (some 201) (.mv (.t 32)),
  .op (some 202) (.mv (.t 23)),
  .op (some 203) (.faddr 7 (.t 22)),
  .op (some 204) (.load 1 false (.t 203)),
  .op (some 205) (.mv (.t 23)),
  .op (some 206) (.binI .add (.t 205) (.v (.lit (.int .i64 (1))))),
  .op (some 207) (.iaddrS 4 (.t 204) (.t 206)),
  .op (some 208) (.load 4 true (.t 207)),
  .op (some 209) (.iaddrS 4 (.t 201) (.t 202)),
  .op none (.store 4 (.t 209) (.t 208))])
 (.seq (.reg [.op (some 210) (.mv (.t 32)),
  .op (some 211) (.mv (.t 23)),
  .op (some 212) (.binI .add (.t 211) (.v (.lit (.int .i64 (1))))),
  .op (some 213) (.faddr 7 (.t 22)),
  .op (some 214) (.load 1 false (.t 213)),
  .op (some 215) (.mv (.t 23)),
  .op (some 216) (.iaddrS 4 (.t 214) (.t 215)),
  .op (some 217) (.load 4 true (.t 216)),
  .op (some 218) (.iaddrS 4 (.t 210) (.t 212)),
  .op none (.store 4 (.t 218) (.t 217))])
 (.seq (.reg [.op (some 220) (.load 8 true (.t 22)),
  .op (some 221) (.faddr 0 (.t 22)),
  .op (some 222) (.load 6 true (.t 221)),
  .op (some 223) (.faddr 6 (.t 22)),
  .op (some 224) (.load 1 false (.t 223)),
  .op (some 225) (.mv (.t 32)),
  .op (some 226) (.build [(.lit (.int .i64 (0))), (.lit (.int .i64 (0))), (.lit (.int .i64 (0))), (.lit (.int .i64 (0))), (.lit (.int .i64 (0))), (.lit (.int .i64 (0))), (.lit (.slice none 0 0)), (.lit (.slice none 0 0))] [((0, 6), (.t 222)), ((6, 1), (.t 224)), ((7, 1), (.t 225))]),
  .op (some 227) (.call (.v (.lit (.func (.func 52) #[] #[]))) [(.t 220), (.t 226)]),
  .op (some 219) (.mv (.t 227)),
  .op (some 228) (.ext (.t 219) 0),
  .op (some 229) (.ext (.t 219) 1),
  .op (some 33) (.mv (.t 228)),
  .op (some 34) (.mv (.t 229))])
 (.seq (.reg [.op (some 230) (.mv (.t 34)),
  .op (some 231) (.un .not (.t 230)),
  .op (some 232) (.mv (.t 231)),
  .grp 232 false [((some 233), (.mv (.t 33))), ((some 234), (.mv (.t 24))), ((some 235), (.binB true (.t 233) (.t 234)))],
  .op (some 236) (.pick (.t 232) (.v (.lit (.bool true))) (.t 235))])
 (.cond (.t 236)
 (.seq (.reg [.op (some 2) (.mv (.v (.lit (.bool false))))])
 .ret)
 .skip))))))
 .skip))
 (.seq (.seq (.reg [.op (some 237) (.mv (.t 5)),
  .op (some 238) (.un .not (.t 237))])
 (.cond (.t 238)
 (.seq (.reg [.op (some 2) (.mv (.v (.lit (.bool true))))])
 .ret)
 .skip))
 (.seq (.reg [.op (some 240) (.load 8 true (.t 3)),
  .op (some 241) (.call (.v (.lit (.func (.func 57) #[] #[]))) [(.t 240)]),
  .op (some 239) (.mv (.t 241)),
  .op (some 242) (.ext (.t 239) 0),
  .op (some 243) (.ext (.t 239) 1),
  .op (some 35) (.alloc 26 (List.replicate 6 (.lit (.int .i64 (0))))),
  .op none (.store 6 (.t 35) (.t 242)),
  .op (some 36) (.mv (.t 243))])
 (.seq (.reg [.op (some 245) (.load 8 true (.t 12)),
  .op (some 246) (.call (.v (.lit (.func (.func 57) #[] #[]))) [(.t 245)]),
  .op (some 244) (.mv (.t 246)),
  .op (some 247) (.ext (.t 244) 0),
  .op (some 248) (.ext (.t 244) 1),
  .op (some 37) (.alloc 26 (List.replicate 6 (.lit (.int .i64 (0))))),
  .op none (.store 6 (.t 37) (.t 247)),
  .op (some 38) (.mv (.t 248))])
 (.seq (.seq (.reg [.op (some 249) (.mv (.t 36)),
  .op (some 250) (.un .not (.t 249)),
  .op (some 251) (.mv (.t 250)),
  .grp 251 false [((some 252), (.mv (.t 38))), ((some 253), (.un .not (.t 252)))],
  .op (some 254) (.pick (.t 251) (.v (.lit (.bool true))) (.t 253)),
  .op (some 255) (.mv (.t 254)),
  .grp 255 false [((some 256), (.load 6 true (.t 37))), ((some 257), (.load 6 true (.t 35))), ((some 258), (.eqA true [.int, .int, .int, .int, .int, .int] (.t 256) (.t 257)))],
  .op (some 259) (.pick (.t 255) (.v (.lit (.bool true))) (.t 258)),
  .op (some 260) (.mv (.t 259)),
  .grp 260 false [((some 261), (.faddr 7 (.t 12))), ((some 262), (.load 1 false (.t 261))), ((some 263), (.lenL (.t 262))), ((some 264), (.faddr 7 (.t 3))), ((some 265), (.load 1 false (.t 264))), ((some 266), (.lenL (.t 265))), ((some 267), (.mv (.t 8))), ((some 268), (.lenL (.t 267))), ((some 269), (.binI .sub (.t 266) (.t 268))), ((some 270), (.binI .neq (.t 263) (.t 269)))],
  .op (some 271) (.pick (.t 260) (.v (.lit (.bool true))) (.t 270))])
 (.cond (.t 271)
 (.seq (.reg [.op (some 2) (.mv (.v (.lit (.bool false))))])
 .ret)
 .skip))
 (.seq (.seq (.reg [.op (some 39) (.mv (.v (.lit (.int .i64 (0)))))])
 (.block 0 (.loop (.seq (.seq (.reg [.op (some 272) (.mv (.t 39)),
  .op (some 273) (.binI .lss (.t 272) (.v (.lit (.int .i64 (6)))))])
 (.cond (.t 273)
 .skip
 (.exit 0)))
 (.seq (.block 1 (.seq (.reg [.op (some 40) (.mv (.v (.lit (.int .i64 (0)))))])
 (.block 2 (.loop (.seq (.seq (.reg [.op (some 276) (.mv (.t 40)),
  .op (some 277) (.binI .lss (.t 276) (.v (.lit (.int .i64 (6)))))])
 (.cond (.t 277)
 .skip
 (.exit 2)))
 (.seq (.block 3 (.seq (.reg [.op (some 281) (.faddr 0 (.t 3)),
  .op (some 282) (.load 6 true (.t 281)),
  .op (some 283) (.mv (.t 40)),
  .op (some 284) (.mv (.t 39)),
  .op (some 285) (.build [(.lit (.int .i64 (0))), (.lit (.int .i64 (0)))] [((0, 1), (.t 283)), ((1, 1), (.t 284))]),
  .op (some 286) (.call (.v (.lit (.func (.func 21) #[] #[]))) [(.t 282), (.t 285)]),
  .op (some 280) (.mv (.t 286)),
  .op (some 287) (.ext (.t 280) 0),
  .op (some 288) (.ext (.t 280) 1),
  .op (some 41) (.mv (.t 287)),
  .op (some 42) (.mv (.t 288))])
 (.seq (.reg [.op (some 290) (.load 6 true (.t 35)),
  .op (some 291) (.mv (.t 40)),
  .op (some 292) (.mv (.t 39)),
  .op (some 293) (.build [(.lit (.int .i64 (0))), (.lit (.int .i64 (0)))] [((0, 1), (.t 291)), ((1, 1), (.t 292))]),
  .op (some 294) (.call (.v (.lit (.func (.func 21) #[] #[]))) [(.t 290), (.t 293)]),
  .op (some 289) (.mv (.t 294)),
  .op (some 295) (.ext (.t 289) 0),
  .op (some 296) (.ext (.t 289) 1),
  .op (some 43) (.mv (.t 295)),
  .op (some 44) (.mv (.t 296))])
 (.seq (.reg [.op (some 297) (.mv (.t 39)),
  .op (some 298) (.mv (.t 40)),
  .op (some 299) (.iaddrA 6 6 (.t 4) (.t 297)),
  .op (some 300) (.iaddrA 6 1 (.t 299) (.t 298)),
  .op (some 301) (.load 1 false (.t 300)),
  .op (some 45) (.mv (.t 301))])
 (.seq (.reg [.op (some 302) (.mv (.t 42)),
  .op (some 303) (.un .not (.t 302)),
  .op (some 304) (.mv (.t 303)),
  .grp 304 false [((some 305), (.mv (.t 44))), ((some 306), (.un .not (.t 305)))],
  .op (some 307) (.pick (.t 304) (.v (.lit (.bool true))) (.t 306)),
  .op (some 308) (.mv (.t 307)),
  .grp 308 false [((some 309), (.mv (.t 45))), ((some 310), (.binI .eql (.t 309) (.v (.lit (.int .i64 (0)))))), ((some 311), (.mv (.t 310)))],
  .grp 311 true [((some 312), (.mv (.t 43))), ((some 313), (.mv (.t 41))), ((some 314), (.binB true (.t 312) (.t 313)))],
  .grp 308 false [((some 315), (.pick (.t 311) (.t 314) (.v (.lit (.bool false)))))],
  .op (some 316) (.pick (.t 308) (.v (.lit (.bool true))) (.t 315)),
  .op (some 317) (.mv (.t 316)),
  .grp 317 false [((some 318), (.mv (.t 45))), ((some 319), (.binI .eql (.t 318) (.v (.lit (.int .i64 (1)))))), ((some 320), (.mv (.t 319)))],
  .grp 320 true [((some 321), (.mv (.t 43))), ((some 322), (.mv (.t 41))), ((some 323), (.binB false (.t 321) (.t 322)))],
  .grp 317 false [((some 324), (.pick (.t 320) (.t 323) (.v (.lit (.bool false)))))],
  .op (some 325) (.pick (.t 317) (.v (.lit (.bool true))) (.t 324)),
  .op (some 326) (.mv (.t 325)),
  .grp 326 false [((some 327), (.mv (.t 45))), ((some 328), (.binI .eql (.t 327) (.v (.lit (.int .i64 (2)))))), ((some 329), (.mv (.t 328)))],
  .grp 329 true [((some 330), (.mv (.t 43))), ((some 331), (.un .not (.t 330)))],
  .grp 326 false [((some 332), (.pick (.t 329) (.t 331) (.v (.lit (.bool false)))))],
  .op (some 333) (.pick (.t 326) (.v (.lit (.bool true))) (.t 332)),
  .op (some 334) (.mv (.t 333)),
  .grp 334 false [((some 335), (.mv (.t 45))), ((some 336), (.binI .eql (.t 335) (.v (.lit (.int .i64 (3)))))), ((some 337), (.mv (.t 336)))],
  .grp 337 true [((some 338), (.mv (.t 43)))],
  .grp 334 false [((some 339), (.pick (.t 337) (.t 338) (.v (.lit (.bool false)))))],
  .op (some 340) (.pick (.t 334) (.v (.lit (.bool true))) (.t 339))])
 (.cond (.t 340)
 (.seq (.reg [.op (some 2) (.mv (.v (.lit (.bool false))))])
 .ret)
 .skip))))))
 (.reg [.op (some 278) (.mv (.t 40)),
  .op (some 279) (.binI .add (.t 278) (.v (.lit (.int .i64 (1))))),
  .op (some 40) (.mv (.t 279))])))))))
 (.reg [.op (some 274) (.mv (.t 39)),
  .op (some 275) (.binI .add (.t 274) (.v (.lit (.int .i64 (1))))),
  .op (some 39) (.mv (.t 275))]))))))
 (.seq (.reg [.op (some 2) (.mv (.v (.lit (.bool true))))])
 .ret)))))))))))))))))))))))
def r6 : RC := (.seq (.reg [.op (some 2) (.mv (.v (.lit (.bool false))))])
 (.seq (.reg [.op (some 3) (.mv (.t 0)),
  .op (some 4) (.lenL (.t 3)),
  .op (some 5) (.binI .gtr (.t 4) (.v (.lit (.int .i64 (65536))))),
  .op (some 2) (.mv (.t 5))])
 .ret))
def rs6 : List RR := [.tmp 2]
def cut6 : Nat → Nat := fun id => 0
theorem k6 : (Try.f6.body.bind fun c => comp Try.prog Try.f6.ntmps cut6 c) = some r6 := by kernel_rfl
theorem by6 {W0 : World} {σ : List Blk} {args : List AV} {K : Cont} (hn : args.length ≤ 6) (h : rW Try.prog W0 σ.length r6 (initFr args) σ (finP W0 rs6 σ.length K)) : ACall Try.prog W0 6 args σ K :=
  ACall.introR mixed Try.func6 (by kernel_rfl) k6 (by kernel_rfl) hn h
def r7 : RC := (.seq (.reg [.op (some 2) (.alloc 26 (List.replicate 6 (.lit (.int .i64 (0))))),
  .op (some 3) (.alloc 26 (List.replicate 6 (.lit (.int .i64 (0))))),
  .op (some 4) (.alloc 27 [(.lit (.int .i64 (0))), (.lit (.int .i64 (0)))])])
 (.seq (.reg [.op (some 8) (.mv (.t 0)),
  .op (some 9) (.build [(.lit (.slice none 0 0)), (.lit (.int .i64 (0))), (.lit (.int .u64 (0)))] [((0, 1), (.t 8))]),
  .op (some 10) (.box 92 (.t 9)),
  .op (some 5) (.mv (.t 10))])
 (.seq (.reg [.op (some 11) (.mv (.t 5)),
  .op (some 12) (.call (.v (.lit (.func (.func 58) #[] #[]))) [(.t 11)]),
  .op (some 13) (.mv (.t 5)),
  .op (some 14) (.call (.v (.lit (.func (.func 59) #[] #[]))) [(.t 13)]),
  .op (some 6) (.alloc 27 [(.lit (.int .i64 (0))), (.lit (.int .i64 (0)))]),
  .op (some 7) (.alloc 26 (List.replicate 6 (.lit (.int .i64 (0))))),
  .op none (.store 2 (.t 6) (.t 12)),
  .op none (.store 6 (.t 7) (.t 14))])
 (.seq (.any true (.n ⟨none, (some 15), (.mv (.t 5))⟩
 (.h ⟨none, (some 17), (.load 6 true (.t 7))⟩
 (.h ⟨none, (some 18), (.load 2 true (.t 6))⟩
 (.t ⟨none, (some 16), (.call (.v (.lit (.func (.func 60) #[] #[]))) [(.t 15)])⟩
 (.t ⟨none, none, (.store 6 (.t 2) (.t 16))⟩
 (.t ⟨none, none, (.store 6 (.t 3) (.t 17))⟩
 (.t ⟨none, none, (.store 2 (.t 4) (.t 18))⟩
 .fin))))))))
 .ret))))
def rs7 : List RR := [.cell 2 6 true, .cell 3 6 true, .cell 4 2 true]
def cut7 : Nat → Nat := fun id => if id = 3 then 1000229 else 0
theorem k7 : (Try.f7.body.bind fun c => comp Try.prog Try.f7.ntmps cut7 c) = some r7 := by kernel_rfl
theorem by7 {W0 : World} {σ : List Blk} {args : List AV} {K : Cont} (hn : args.length ≤ 19) (h : rW Try.prog W0 σ.length r7 (initFr args) σ (finP W0 rs7 σ.length K)) : ACall Try.prog W0 7 args σ K :=
  ACall.introR mixed Try.func7 (by kernel_rfl) k7 (by kernel_rfl) hn h
def r8 : RC := (.seq (.reg [.op (some 3) (.box 26 (.t 0)),
  .op (some 4) (.box 26 (.t 1)),
  .op (some 5) (.box 27 (.t 2)),
  .op (some 6) (.alloc 26 (List.replicate 6 (.lit (.int .i64 (0))))),
  .op (some 7) (.mv (.v (.lit (.bool false))))])
 (.seq (.reg [.op (some 8) (.load 6 true (.t 3)),
  .op (some 9) (.load 6 true (.t 4)),
  .op (some 10) (.load 2 true (.t 5)),
  .op (some 11) (.call (.v (.lit (.func (.func 61) #[] #[]))) [(.t 8), (.t 9), (.t 10), (.v (.lit (.func (.func 62) #[] #[])))]),
  .op (some 12) (.ext (.t 11) 0),
  .op (some 13) (.ext (.t 11) 1),
  .op none (.store 6 (.t 6) (.t 12)),
  .op (some 7) (.mv (.t 13))])
 .ret))
def rs8 : List RR := [.cell 6 6 true, .tmp 7]
def cut8 : Nat → Nat := fun id => 0
theorem k8 : (Try.f8.body.bind fun c => comp Try.prog Try.f8.ntmps cut8 c) = some r8 := by kernel_rfl
theorem by8 {W0 : World} {σ : List Blk} {args : List AV} {K : Cont} (hn : args.length ≤ 14) (h : rW Try.prog W0 σ.length r8 (initFr args) σ (finP W0 rs8 σ.length K)) : ACall Try.prog W0 8 args σ K :=
  ACall.introR mixed Try.func8 (by kernel_rfl) k8 (by kernel_rfl) hn h
def r9 : RC := (.seq (.reg [.op (some 3) (.box 26 (.t 0)),
  .op (some 4) (.box 26 (.t 1)),
  .op (some 5) (.box 27 (.t 2)),
  .op (some 6) (.alloc 26 (List.replicate 6 (.lit (.int .i64 (0))))),
  .op (some 7) (.mv (.v (.lit (.bool false))))])
 (.seq (.seq (.reg [.op (some 8) (.load 6 true (.t 3)),
  .op (some 9) (.load 6 true (.t 4)),
  .op (some 10) (.load 2 true (.t 5)),
  .op (some 11) (.call (.v (.lit (.func (.func 63) #[] #[]))) [(.t 8), (.t 9), (.t 10)]),
  .op (some 12) (.un .not (.t 11))])
 (.cond (.t 12)
 (.seq (.reg [.op (some 13) (.build (List.replicate 6 (.lit (.int .i64 (0)))) []),
  .op none (.store 6 (.t 6) (.t 13)),
  .op (some 7) (.mv (.v (.lit (.bool false))))])
 .ret)
 .skip))
 (.seq (.draw [((some 14), (.load 6 true (.t 3))), ((some 15), (.load 6 true (.t 4))), ((some 16), (.load 2 true (.t 5))), ((some 17), (.call (.v (.lit (.func (.func 65) #[] #[]))) [(.t 15), (.t 16)])), ((some 18), (.call (.v (.lit (.func (.func 64) #[] #[]))) [(.t 14), (.t 17)]))] [(none, (.store 6 (.t 6) (.t 18))), ((some 7), (.mv (.v (.lit (.bool true)))))])
 .ret)))
def rs9 : List RR := [.cell 6 6 true, .tmp 7]
def cut9 : Nat → Nat := fun id => if id = 3 then 11 else 0
theorem k9 : (Try.f9.body.bind fun c => comp Try.prog Try.f9.ntmps cut9 c) = some r9 := by kernel_rfl
theorem by9 {W0 : World} {σ : List Blk} {args : List AV} {K : Cont} (hn : args.length ≤ 19) (h : rW Try.prog W0 σ.length r9 (initFr args) σ (finP W0 rs9 σ.length K)) : ACall Try.prog W0 9 args σ K :=
  ACall.introR mixed Try.func9 (by kernel_rfl) k9 (by kernel_rfl) hn h
def r10 : RC := (.seq (.reg [.op (some 3) (.box 26 (.t 0)),
  .op (some 4) (.box 26 (.t 1)),
  .op (some 5) (.box 27 (.t 2)),
  .op (some 6) (.alloc 26 (List.replicate 6 (.lit (.int .i64 (0))))),
  .op (some 7) (.mv (.v (.lit (.bool false))))])
 (.seq (.reg [.op (some 8) (.load 6 true (.t 3)),
  .op (some 9) (.load 6 true (.t 4)),
  .op (some 10) (.load 2 true (.t 5)),
  .op (some 11) (.call (.v (.lit (.func (.func 61) #[] #[]))) [(.t 8), (.t 9), (.t 10), (.v (.lit (.func (.func 66) #[] #[])))]),
  .op (some 12) (.ext (.t 11) 0),
  .op (some 13) (.ext (.t 11) 1),
  .op none (.store 6 (.t 6) (.t 12)),
  .op (some 7) (.mv (.t 13))])
 .ret))
def rs10 : List RR := [.cell 6 6 true, .tmp 7]
def cut10 : Nat → Nat := fun id => 0
theorem k10 : (Try.f10.body.bind fun c => comp Try.prog Try.f10.ntmps cut10 c) = some r10 := by kernel_rfl
theorem by10 {W0 : World} {σ : List Blk} {args : List AV} {K : Cont} (hn : args.length ≤ 14) (h : rW Try.prog W0 σ.length r10 (initFr args) σ (finP W0 rs10 σ.length K)) : ACall Try.prog W0 10 args σ K :=
  ACall.introR mixed Try.func10 (by kernel_rfl) k10 (by kernel_rfl) hn h
def r11 : RC := (.seq (.reg [.op (some 3) (.box 26 (.t 0)),
  .op (some 4) (.box 26 (.t 1)),
  .op (some 5) (.box 27 (.t 2)),
  .op (some 6) (.alloc 26 (List.replicate 6 (.lit (.int .i64 (0))))),
  .op (some 7) (.mv (.v (.lit (.bool false))))])
 (.seq (.seq (.reg [.op (some 8) (.load 6 true (.t 3)),
  .op (some 9) (.load 6 true (.t 4)),
  .op (some 10) (.load 2 true (.t 5)),
  .op (some 11) (.call (.v (.lit (.func (.func 63) #[] #[]))) [(.t 8), (.t 9), (.t 10)]),
  .op (some 12) (.un .not (.t 11))])
 (.cond (.t 12)
 (.seq (.reg [.op (some 13) (.build (List.replicate 6 (.lit (.int .i64 (0)))) []),
  .op none (.store 6 (.t 6) (.t 13)),
  .op (some 7) (.mv (.v (.lit (.bool false))))])
 .ret)
 .skip))
 (.seq (.draw [((some 14), (.load 6 true (.t 3))), ((some 15), (.load 6 true (.t 4))), ((some 16), (.load 2 true (.t 5))), ((some 17), (.call (.v (.lit (.func (.func 65) #[] #[]))) [(.t 15), (.t 16)])), ((some 18), (.call (.v (.lit (.func (.func 67) #[] #[]))) [(.t 14), (.t 17)]))] [(none, (.store 6 (.t 6) (.t 18))), ((some 7), (.mv (.v (.lit (.bool true)))))])
 .ret)))
def rs11 : List RR := [.cell 6 6 true, .tmp 7]
def cut11 : Nat → Nat := fun id => if id = 3 then 11 else 0
theorem k11 : (Try.f11.body.bind fun c => comp Try.prog Try.f11.ntmps cut11 c) = some r11 := by kernel_rfl
theorem by11 {W0 : World} {σ : List Blk} {args : List AV} {K : Cont} (hn : args.length ≤ 19) (h : rW Try.prog W0 σ.length r11 (initFr args) σ (finP W0 rs11 σ.length K)) : ACall Try.prog W0 11 args σ K :=
  ACall.introR mixed Try.func11 (by kernel_rfl) k11 (by kernel_rfl) hn h
def r12 : RC := (.seq (.reg [.op (some 3) (.box 26 (.t 0)),
  .op (some 4) (.box 26 (.t 1)),
  .op (some 5) (.box 27 (.t 2)),
  .op (some 6) (.alloc 26 (List.replicate 6 (.lit (.int .i64 (0))))),
  .op (some 7) (.mv (.v (.lit (.bool false))))])
 (.seq (.reg [.op (some 8) (.load 6 true (.t 3)),
  .op (some 9) (.load 6 true (.t 4)),
  .op (some 10) (.load 2 true (.t 5)),
  .op (some 11) (.call (.v (.lit (.func (.func 61) #[] #[]))) [(.t 8), (.t 9), (.t 10), (.v (.lit (.func (.func 68) #[] #[])))]),
  .op (some 12) (.ext (.t 11) 0),
  .op (some 13) (.ext (.t 11) 1),
  .op none (.store 6 (.t 6) (.t 12)),
  .op (some 7) (.mv (.t 13))])
 .ret))
def rs12 : List RR := [.cell 6 6 true, .tmp 7]
def cut12 : Nat → Nat := fun id => 0
theorem k12 : (Try.f12.body.bind fun c => comp Try.prog Try.f12.ntmps cut12 c) = some r12 := by kernel_rfl
theorem by12 {W0 : World} {σ : List Blk} {args : List AV} {K : Cont} (hn : args.length ≤ 14) (h : rW Try.prog W0 σ.length r12 (initFr args) σ (finP W0 rs12 σ.length K)) : ACall Try.prog W0 12 args σ K :=
  ACall.introR mixed Try.func12 (by kernel_rfl) k12 (by kernel_rfl) hn h
def r13 : RC := (.seq (.reg [.op (some 3) (.box 26 (.t 0)),
  .op (some 4) (.box 26 (.t 1)),
  .op (some 5) (.box 27 (.t 2)),
  .op (some 6) (.alloc 26 (List.replicate 6 (.lit (.int .i64 (0))))),
  .op (some 7) (.mv (.v (.lit (.bool false))))])
 (.seq (.seq (.reg [.op (some 8) (.load 6 true (.t 3)),
  .op (some 9) (.load 6 true (.t 4)),
  .op (some 10) (.load 2 true (.t 5)),
  .op (some 11) (.call (.v (.lit (.func (.func 63) #[] #[]))) [(.t 8), (.t 9), (.t 10)]),
  .op (some 12) (.un .not (.t 11))])
 (.cond (.t 12)
 (.seq (.reg [.op (some 13) (.build (List.replicate 6 (.lit (.int .i64 (0)))) []),
  .op none (.store 6 (.t 6) (.t 13)),
  .op (some 7) (.mv (.v (.lit (.bool false))))])
 .ret)
 .skip))
 (.seq (.draw [((some 14), (.load 6 true (.t 3))), ((some 15), (.load 6 true (.t 4))), ((some 16), (.load 2 true (.t 5))), ((some 17), (.call (.v (.lit (.func (.func 65) #[] #[]))) [(.t 15), (.t 16)])), ((some 18), (.call (.v (.lit (.func (.func 70) #[] #[]))) [(.t 17)])), ((some 19), (.call (.v (.lit (.func (.func 69) #[] #[]))) [(.t 14), (.t 18)]))] [(none, (.store 6 (.t 6) (.t 19))), ((some 7), (.mv (.v (.lit (.bool true)))))])
 .ret)))
def rs13 : List RR := [.cell 6 6 true, .tmp 7]
def cut13 : Nat → Nat := fun id => if id = 3 then 13 else 0
theorem k13 : (Try.f13.body.bind fun c => comp Try.prog Try.f13.ntmps cut13 c) = some r13 := by kernel_rfl
theorem by13 {W0 : World} {σ : List Blk} {args : List AV} {K : Cont} (hn : args.length ≤ 20) (h : rW Try.prog W0 σ.length r13 (initFr args) σ (finP W0 rs13 σ.length K)) : ACall Try.prog W0 13 args σ K :=
  ACall.introR mixed Try.func13 (by kernel_rfl) k13 (by kernel_rfl) hn h
def r14 : RC := (.seq (.reg [.op (some 2) (.alloc 26 (List.replicate 6 (.lit (.int .i64 (0))))),
  .op (some 3) (.mv (.v (.lit (.int .i64 (0))))),
  .op (some 4) (.mv (.v (.lit (.int .i64 (0)))))])
 (.seq (.reg [.op (some 8) (.mv (.t 0)),
  .op (some 9) (.build [(.lit (.slice none 0 0)), (.lit (.int .i64 (0))), (.lit (.int .u64 (0)))] [((0, 1), (.t 8))]),
  .op (some 10) (.box 92 (.t 9)),
  .op (some 5) (.mv (.t 10))])
 (.seq (.reg [.op (some 11) (.mv (.t 5)),
  .op (some 12) (.call (.v (.lit (.func (.func 71) #[] #[]))) [(.t 11), (.v (.lit (.int .i64 (15))))]),
  .op (some 13) (.binI .sub (.t 12) (.v (.lit (.int .i64 (6))))),
  .op (some 14) (.mv (.t 5)),
  .op (some 15) (.call (.v (.lit (.func (.func 71) #[] #[]))) [(.t 14), (.v (.lit (.int .i64 (15))))]),
  .op (some 16) (.binI .sub (.t 15) (.v (.lit (.int .i64 (6))))),
  .op (some 6) (.mv (.t 13)),
  .op (some 7) (.mv (.t 16))])
 (.seq (.seq (.reg [.op (some 17) (.mv (.t 5)),
  .op (some 18) (.call (.v (.lit (.func (.func 72) #[] #[]))) [(.t 17), (.v (.lit (.int .i64 (20))))])])
 (.cond (.t 18)
 (.reg [.op (some 19) (.mv (.t 5)),
  .op (some 20) (.bslice 3 1 3 [(.lit (.int .i64 (0)))] [(0, (.v (.lit (.int .i64 (9223372036854775807))))), (1, (.v (.lit (.int .i64 (-9223372036854775808))))), (2, (.v (.lit (.int .i64 (4611686018427387904)))))]),
  .op (some 21) (.call (.v (.lit (.func (.func 73) #[] #[]))) [(.t 19), (.t 20)]),
  .op (some 6) (.mv (.t 21))])
 .skip))
 (.seq (.reg [.op (some 22) (.mv (.t 5)),
  .op (some 23) (.call (.v (.lit (.func (.func 60) #[] #[]))) [(.t 22)]),
  .op (some 24) (.mv (.t 6)),
  .op (some 25) (.mv (.t 7)),
  .op none (.store 6 (.t 2) (.t 23)),
  .op (some 3) (.mv (.t 24)),
  .op (some 4) (.mv (.t 25))])
 .ret)))))
def rs14 : List RR := [.cell 2 6 true, .tmp 3, .tmp 4]
def cut14 : Nat → Nat := fun id => 0
theorem k14 : (Try.f14.body.bind fun c => comp Try.prog Try.f14.ntmps cut14 c) = some r14 := by kernel_rfl
theorem by14 {W0 : World} {σ : List Blk} {args : List AV} {K : Cont} (hn : args.length ≤ 26) (h : rW Try.prog W0 σ.length r14 (initFr args) σ (finP W0 rs14 σ.length K)) : ACall Try.prog W0 14 args σ K :=
  ACall.introR mixed Try.func14 (by kernel_rfl) k14 (by kernel_rfl) hn h
def r15 : RC := (.seq (.reg [.op (some 3) (.box 26 (.t 0)),
  .op (some 6) (.alloc 26 (List.replicate 6 (.lit (.int .i64 (0))))),
  .op (some 7) (.mv (.v (.lit (.bool false))))])
 (.seq (.reg [.op (some 11) (.load 6 true (.t 3)),
  .op (some 12) (.call (.v (.lit (.func (.func 74) #[] #[]))) [(.t 11)]),
  .op (some 10) (.mv (.t 12)),
  .op (some 13) (.ext (.t 10) 0),
  .op (some 14) (.ext (.t 10) 1),
  .op (some 8) (.mv (.t 13)),
  .op (some 9) (.mv (.t 14))])
 (.seq (.seq (.reg [.op (some 15) (.mv (.t 9)),
  .op (some 16) (.un .not (.t 15))])
 (.cond (.t 16)
 (.seq (.reg [.op (some 17) (.build (List.replicate 6 (.lit (.int .i64 (0)))) []),
  .op none (.store 6 (.t 6) (.t 17)),
  .op (some 7) (.mv (.v (.lit (.bool false))))])
 .ret)
 .skip))
 (.seq (.reg [.op (some 18) (.mv (.t 8)),
  .op (some 19) (.mv (.t 1)),
  .op (some 20) (.mv (.t 2)),
  .op (some 21) (.call (.v (.lit (.func (.func 75) #[] #[]))) [(.t 18), (.t 19), (.t 20)]),
  .op (some 22) (.call (.v (.lit (.func (.func 76) #[] #[]))) [(.t 21)]),
  .op none (.store 6 (.t 6) (.t 22)),
  .op (some 7) (.mv (.v (.lit (.bool true))))])
 .ret))))
def rs15 : List RR := [.cell 6 6 true, .tmp 7]
def cut15 : Nat → Nat := fun id => 0
theorem k15 : (Try.f15.body.bind fun c => comp Try.prog Try.f15.ntmps cut15 c) = some r15 := by kernel_rfl
theorem by15 {W0 : World} {σ : List Blk} {args : List AV} {K : Cont} (hn : args.length ≤ 23) (h : rW Try.prog W0 σ.length r15 (initFr args) σ (finP W0 rs15 σ.length K)) : ACall Try.prog W0 15 args σ K :=
  ACall.introR mixed Try.func15 (by kernel_rfl) k15 (by kernel_rfl) hn h
def r16 : RC := (.seq (.reg [.op (some 3) (.box 26 (.t 0)),
  .op (some 6) (.alloc 26 (List.replicate 6 (.lit (.int .i64 (0))))),
  .op (some 7) (.mv (.v (.lit (.bool false))))])
 (.seq (.seq (.reg [.op (some 8) (.load 6 true (.t 3)),
  .op (some 9) (.call (.v (.lit (.func (.func 77) #[] #[]))) [(.t 8)]),
  .op (some 10) (.un .not (.t 9))])
 (.cond (.t 10)
 (.seq (.reg [.op (some 11) (.build (List.replicate 6 (.lit (.int .i64 (0)))) []),
  .op none (.store 6 (.t 6) (.t 11)),
  .op (some 7) (.mv (.v (.lit (.bool false))))])
 .ret)
 .skip))
 (.seq (.reg [.op (some 12) (.load 6 true (.t 3)),
  .op (some 13) (.mv (.t 1)),
  .op (some 14) (.mv (.t 2)),
  .op (some 15) (.call (.v (.lit (.func (.func 78) #[] #[]))) [(.t 12), (.t 13), (.t 14)]),
  .op none (.store 6 (.t 6) (.t 15)),
  .op (some 7) (.mv (.v (.lit (.bool true))))])
 .ret)))
def rs16 : List RR := [.cell 6 6 true, .tmp 7]
def cut16 : Nat → Nat := fun id => 0
theorem k16 : (Try.f16.body.bind fun c => comp Try.prog Try.f16.ntmps cut16 c) = some r16 := by kernel_rfl
theorem by16 {W0 : World} {σ : List Blk} {args : List AV} {K : Cont} (hn : args.length ≤ 16) (h : rW Try.prog W0 σ.length r16 (initFr args) σ (finP W0 rs16 σ.length K)) : ACall Try.prog W0 16 args σ K :=
  ACall.introR mixed Try.func16 (by kernel_rfl) k16 (by kernel_rfl) hn h
def r17 : RC := (.seq (.reg [.op (some 1) (.box 26 (.t 0)),
  .op (some 2) (.mv (.v (.lit (.bool false))))])
 (.seq (.reg [.op (some 6) (.load 6 true (.t 1)),
  .op (some 7) (.call (.v (.lit (.func (.func 74) #[] #[]))) [(.t 6)]),
  .op (some 5) (.mv (.t 7)),
  .op (some 8) (.ext (.t 5) 0),
  .op (some 9) (.ext (.t 5) 1),
  .op (some 3) (.mv (.t 8)),
  .op (some 4) (.mv (.t 9))])
 (.seq (.reg [.op (some 10) (.mv (.t 4)),
  .op (some 2) (.mv (.t 10))])
 .ret)))
def rs17 : List RR := [.tmp 2]
def cut17 : Nat → Nat := fun id => 0
theorem k17 : (Try.f17.body.bind fun c => comp Try.prog Try.f17.ntmps cut17 c) = some r17 := by kernel_rfl
theorem by17 {W0 : World} {σ : List Blk} {args : List AV} {K : Cont} (hn : args.length ≤ 11) (h : rW Try.prog W0 σ.length r17 (initFr args) σ (finP W0 rs17 σ.length K)) : ACall Try.prog W0 17 args σ K :=
  ACall.introR mixed Try.func17 (by kernel_rfl) k17 (by kernel_rfl) hn h
def r18 : RC := (.seq (.reg [.op (some 2) (.alloc 26 (List.replicate 6 (.lit (.int .i64 (0))))),
  .op (some 3) (.alloc 27 [(.lit (.int .i64 (0))), (.lit (.int .i64 (0)))])])
 (.seq (.reg [.op (some 4) (.mv (.t 0)),
  .op (some 5) (.call (.v (.lit (.func (.func 79) #[] #[]))) [(.t 4)]),
  .op (some 6) (.ext (.t 5) 0),
  .op (some 7) (.ext (.t 5) 1),
  .op none (.store 6 (.t 2) (.t 6)),
  .op none (.store 2 (.t 3) (.t 7))])
 .ret))
def rs18 : List RR := [.cell 2 6 true, .cell 3 2 true]
def cut18 : Nat → Nat := fun id => 0
theorem k18 : (Try.f18.body.bind fun c => comp Try.prog Try.f18.ntmps cut18 c) = some r18 := by kernel_rfl
theorem by18 {W0 : World} {σ : List Blk} {args : List AV} {K : Cont} (hn : args.length ≤ 8) (h : rW Try.prog W0 σ.length r18 (initFr args) σ (finP W0 rs18 σ.length K)) : ACall Try.prog W0 18 args σ K :=
  ACall.introR mixed Try.func18 (by kernel_rfl) k18 (by kernel_rfl) hn h
def r19 : RC := (.seq (.reg [.op (some 2) (.box 26 (.t 0)),
  .op (some 3) (.box 27 (.t 1)),
  .op (some 4) (.alloc 26 (List.replicate 6 (.lit (.int .i64 (0))))),
  .op (some 5) (.mv (.v (.lit (.bool false))))])
 (.seq (.reg [.op (some 9) (.load 6 true (.t 2)),
  .op (some 10) (.call (.v (.lit (.func (.func 74) #[] #[]))) [(.t 9)]),
  .op (some 8) (.mv (.t 10)),
  .op (some 11) (.ext (.t 8) 0),
  .op (some 12) (.ext (.t 8) 1),
  .op (some 6) (.mv (.t 11)),
  .op (some 7) (.mv (.t 12))])
 (.seq (.seq (.reg [.op (some 13) (.mv (.t 7)),
  .op (some 14) (.un .not (.t 13)),
  .op (some 15) (.mv (.t 14)),
  .grp 15 false [((some 16), (.load 2 true (.t 3))), ((some 17), (.call (.v (.lit (.func (.func 80) #[] #[]))) [(.t 16)])), ((some 18), (.un .not (.t 17)))],
  .op (some 19) (.pick (.t 15) (.v (.lit (.bool true))) (.t 18))])
 (.cond (.t 19)
 (.seq (.reg [.op (some 20) (.build (List.replicate 6 (.lit (.int .i64 (0)))) []),
  .op none (.store 6 (.t 4) (.t 20)),
  .op (some 5) (.mv (.v (.lit (.bool false))))])
 .ret)
 .skip))
 (.seq (.reg [.op (some 21) (.mv (.t 6)),
  .op (some 22) (.load 2 true (.t 3)),
  .op (some 23) (.call (.v (.lit (.func (.func 81) #[] #[]))) [(.t 22)]),
  .op (some 24) (.binI .shl (.v (.lit (.int .u64 (1)))) (.t 23)),
  .op (some 25) (.binI .xor (.t 21) (.t 24)),
  .op (some 26) (.call (.v (.lit (.func (.func 76) #[] #[]))) [(.t 25)]),
  .op none (.store 6 (.t 4) (.t 26)),
  .op (some 5) (.mv (.v (.lit (.bool true))))])
 .ret))))
def rs19 : List RR := [.cell 4 6 true, .tmp 5]
def cut19 : Nat → Nat := fun id => 0
theorem k19 : (Try.f19.body.bind fun c => comp Try.prog Try.f19.ntmps cut19 c) = some r19 := by kernel_rfl
theorem by19 {W0 : World} {σ : List Blk} {args : List AV} {K : Cont} (hn : args.length ≤ 27) (h : rW Try.prog W0 σ.length r19 (initFr args) σ (finP W0 rs19 σ.length K)) : ACall Try.prog W0 19 args σ K :=
  ACall.introR mixed Try.func19 (by kernel_rfl) k19 (by kernel_rfl) hn h
def r20 : RC := (.seq (.reg [.op (some 2) (.box 26 (.t 0)),
  .op (some 3) (.box 27 (.t 1)),
  .op (some 4) (.alloc 26 (List.replicate 6 (.lit (.int .i64 (0))))),
  .op (some 5) (.mv (.v (.lit (.bool false))))])
 (.seq (.seq (.reg [.op (some 6) (.load 6 true (.t 2)),
  .op (some 7) (.call (.v (.lit (.func (.func 77) #[] #[]))) [(.t 6)]),
  .op (some 8) (.un .not (.t 7)),
  .op (some 9) (.mv (.t 8)),
  .grp 9 false [((some 10), (.load 2 true (.t 3))), ((some 11), (.call (.v (.lit (.func (.func 82) #[] #[]))) [(.t 10)])), ((some 12), (.un .not (.t 11)))],
  .op (some 13) (.pick (.t 9) (.v (.lit (.bool true))) (.t 12))])
 (.cond (.t 13)
 (.seq (.reg [.op (some 14) (.build (List.replicate 6 (.lit (.int .i64 (0)))) []),
  .op none (.store 6 (.t 4) (.t 14)),
  .op (some 5) (.mv (.v (.lit (.bool false))))])
 .ret)
 .skip))
 (.seq (.reg [.op (some 15) (.load 6 true (.t 2)),
  .op (some 16) (.iaddrA 2 1 (.t 3) (.v (.lit (.int .i64 (0))))),
  .op (some 17) (.load 1 false (.t 16)),
  .op (some 18) (.iaddrA 2 1 (.t 3) (.v (.lit (.int .i64 (1))))),
  .op (some 19) (.load 1 false (.t 18)),
  .op (some 20) (.call (.v (.lit (.func (.func 83) #[] #[]))) [(.t 15), (.t 17), (.t 19)]),
  .op none (.store 6 (.t 4) (.t 20)),
  .op (some 5) (.mv (.v (.lit (.bool true))))])
 .ret)))
def rs20 : List RR := [.cell 4 6 true, .tmp 5]
def cut20 : Nat → Nat := fun id => 0
theorem k20 : (Try.f20.body.bind fun c => comp Try.prog Try.f20.ntmps cut20 c) = some r20 := by kernel_rfl
theorem by20 {W0 : World} {σ : List Blk} {args : List AV} {K : Cont} (hn : args.length ≤ 21) (h : rW Try.prog W0 σ.length r20 (initFr args) σ (finP W0 rs20 σ.length K)) : ACall Try.prog W0 20 args σ K :=
  ACall.introR mixed Try.func20 (by kernel_rfl) k20 (by kernel_rfl) hn h
def r21 : RC := (.seq (.reg [.op (some 2) (.box 26 (.t 0)),
  .op (some 3) (.box 27 (.t 1)),
  .op (some 4) (.mv (.v (.lit (.bool false)))),
  .op (some 5) (.mv (.v (.lit (.bool false))))])
 (.seq (.reg [.op (some 9) (.load 6 true (.t 2)),
  .op (some 10) (.call (.v (.lit (.func (.func 74) #[] #[]))) [(.t 9)]),
  .op (some 8) (.mv (.t 10)),
  .op (some 11) (.ext (.t 8) 0),
  .op (some 12) (.ext (.t 8) 1),
  .op (some 6) (.mv (.t 11)),
  .op (some 7) (.mv (.t 12))])
 (.seq (.seq (.reg [.op (some 13) (.mv (.t 7)),
  .op (some 14) (.un .not (.t 13)),
  .op (some 15) (.mv (.t 14)),
  .grp 15 false [((some 16), (.load 2 true (.t 3))), ((some 17), (.call (.v (.lit (.func (.func 80) #[] #[]))) [(.t 16)])), ((some 18), (.un .not (.t 17)))],
  .op (some 19) (.pick (.t 15) (.v (.lit (.bool true))) (.t 18))])
 (.cond (.t 19)
 (.seq (.reg [.op (some 4) (.mv (.v (.lit (.bool false)))),
  .op (some 5) (.mv (.v (.lit (.bool false))))])
 .ret)
 .skip))
 (.seq (.reg [.op (some 20) (.mv (.t 6)),
  .op (some 21) (.load 2 true (.t 3)),
  .op (some 22) (.call (.v (.lit (.func (.func 81) #[] #[]))) [(.t 21)]),
  .op (some 23) (.call (.v (.lit (.func (.func 84) #[] #[]))) [(.t 20), (.t 22)]),
  .op (some 4) (.mv (.t 23)),
  .op (some 5) (.mv (.v (.lit (.bool true))))])
 .ret))))
def rs21 : List RR := [.tmp 4, .tmp 5]
def cut21 : Nat → Nat := fun id => 0
theorem k21 : (Try.f21.body.bind fun c => comp Try.prog Try.f21.ntmps cut21 c) = some r21 := by kernel_rfl
theorem by21 {W0 : World} {σ : List Blk} {args : List AV} {K : Cont} (hn : args.length ≤ 24) (h : rW Try.prog W0 σ.length r21 (initFr args) σ (finP W0 rs21 σ.length K)) : ACall Try.prog W0 21 args σ K :=
  ACall.introR mixed Try.func21 (by kernel_rfl) k21 (by kernel_rfl) hn h
def r22 : RC := (.seq (.reg [.op (some 2) (.box 26 (.t 0)),
  .op (some 3) (.box 27 (.t 1)),
  .op (some 4) (.mv (.v (.lit (.bool false)))),
  .op (some 5) (.mv (.v (.lit (.bool false))))])
 (.seq (.seq (.reg [.op (some 6) (.load 6 true (.t 2)),
  .op (some 7) (.call (.v (.lit (.func (.func 77) #[] #[]))) [(.t 6)]),
  .op (some 8) (.un .not (.t 7)),
  .op (some 9) (.mv (.t 8)),
  .grp 9 false [((some 10), (.load 2 true (.t 3))), ((some 11), (.call (.v (.lit (.func (.func 82) #[] #[]))) [(.t 10)])), ((some 12), (.un .not (.t 11)))],
  .op (some 13) (.pick (.t 9) (.v (.lit (.bool true))) (.t 12))])
 (.cond (.t 13)
 (.seq (.reg [.op (some 4) (.mv (.v (.lit (.bool false)))),
  .op (some 5) (.mv (.v (.lit (.bool false))))])
 .ret)
 .skip))
 (.seq (.reg [.op (some 14) (.load 6 true (.t 2)),
  .op (some 15) (.iaddrA 2 1 (.t 3) (.v (.lit (.int .i64 (0))))),
  .op (some 16) (.load 1 false (.t 15)),
  .op (some 17) (.iaddrA 2 1 (.t 3) (.v (.lit (.int .i64 (1))))),
  .op (some 18) (.load 1 false (.t 17)),
  .op (some 19) (.call (.v (.lit (.func (.func 85) #[] #[]))) [(.t 14), (.t 16), (.t 18)]),
  .op (some 4) (.mv (.t 19)),
  .op (some 5) (.mv (.v (.lit (.bool true))))])
 .ret)))
def rs22 : List RR := [.tmp 4, .tmp 5]
def cut22 : Nat → Nat := fun id => 0
theorem k22 : (Try.f22.body.bind fun c => comp Try.prog Try.f22.ntmps cut22 c) = some r22 := by kernel_rfl
theorem by22 {W0 : World} {σ : List Blk} {args : List AV} {K : Cont} (hn : args.length ≤ 20) (h : rW Try.prog W0 σ.length r22 (initFr args) σ (finP W0 rs22 σ.length K)) : ACall Try.prog W0 22 args σ K :=
  ACall.introR mixed Try.func22 (by kernel_rfl) k22 (by kernel_rfl) hn h
def r23 : RC := (.seq (.reg [.op (some 1) (.box 26 (.t 0)),
  .op (some 2) (.mv (.v (.lit (.int .i64 (0))))),
  .op (some 3) (.mv (.v (.lit (.bool false))))])
 (.seq (.reg [.op (some 7) (.load 6 true (.t 1)),
  .op (some 8) (.call (.v (.lit (.func (.func 74) #[] #[]))) [(.t 7)]),
  .op (some 6) (.mv (.t 8)),
  .op (some 9) (.ext (.t 6) 0),
  .op (some 10) (.ext (.t 6) 1),
  .op (some 4) (.mv (.t 9)),
  .op (some 5) (.mv (.t 10))])
 (.seq (.reg [.op (some 11) (.mv (.t 4)),
  .op (some 12) (.call (.v (.lit (.func (.func 86) #[] #[]))) [(.t 11)]),
  .op (some 13) (.mv (.t 5)),
  .op (some 2) (.mv (.t 12)),
  .op (some 3) (.mv (.t 13))])
 .ret)))
def rs23 : List RR := [.tmp 2, .tmp 3]
def cut23 : Nat → Nat := fun id => 0
theorem k23 : (Try.f23.body.bind fun c => comp Try.prog Try.f23.ntmps cut23 c) = some r23 := by kernel_rfl
theorem by23 {W0 : World} {σ : List Blk} {args : List AV} {K : Cont} (hn : args.length ≤ 14) (h : rW Try.prog W0 σ.length r23 (initFr args) σ (finP W0 rs23 σ.length K)) : ACall Try.prog W0 23 args σ K :=
  ACall.introR mixed Try.func23 (by kernel_rfl) k23 (by kernel_rfl) hn h
def r24 : RC := (.seq (.reg [.op (some 2) (.box 26 (.t 0)),
  .op (some 3) (.box 26 (.t 1)),
  .op (some 4) (.mv (.v (.lit (.bool false)))),
  .op (some 5) (.mv (.v (.lit (.bool false))))])
 (.seq (.reg [.op (some 10) (.load 6 true (.t 2)),
  .op (some 11) (.load 6 true (.t 3)),
  .op (some 12) (.call (.v (.lit (.func (.func 87) #[] #[]))) [(.t 10), (.t 11)]),
  .op (some 9) (.mv (.t 12)),
  .op (some 13) (.ext (.t 9) 0),
  .op (some 14) (.ext (.t 9) 1),
  .op (some 15) (.ext (.t 9) 2),
  .op (some 6) (.mv (.t 13)),
  .op (some 7) (.mv (.t 14)),
  .op (some 8) (.mv (.t 15))])
 (.seq (.reg [.op (some 16) (.mv (.t 8)),
  .op (some 17) (.mv (.t 16)),
  .grp 17 true [((some 18), (.mv (.t 6))), ((some 19), (.mv (.t 7))), ((some 20), (.binI .andNot (.t 18) (.t 19))), ((some 21), (.binI .eql (.t 20) (.v (.lit (.int .u64 (0))))))],
  .op (some 22) (.pick (.t 17) (.t 21) (.v (.lit (.bool false)))),
  .op (some 23) (.mv (.t 8)),
  .op (some 4) (.mv (.t 22)),
  .op (some 5) (.mv (.t 23))])
 .ret)))
def rs24 : List RR := [.tmp 4, .tmp 5]
def cut24 : Nat → Nat := fun id => 0
theorem k24 : (Try.f24.body.bind fun c => comp Try.prog Try.f24.ntmps cut24 c) = some r24 := by kernel_rfl
theorem by24 {W0 : World} {σ : List Blk} {args : List AV} {K : Cont} (hn : args.length ≤ 24) (h : rW Try.prog W0 σ.length r24 (initFr args) σ (finP W0 rs24 σ.length K)) : ACall Try.prog W0 24 args σ K :=
  ACall.introR mixed Try.func24 (by kernel_rfl) k24 (by kernel_rfl) hn h
def r25 : RC := (.seq (.reg [.op (some 2) (.box 26 (.t 0)),
  .op (some 3) (.box 26 (.t 1)),
  .op (some 4) (.alloc 26 (List.replicate 6 (.lit (.int .i64 (0))))),
  .op (some 5) (.mv (.v (.lit (.bool false))))])
 (.seq (.reg [.op (some 10) (.load 6 true (.t 2)),
  .op (some 11) (.load 6 true (.t 3)),
  .op (some 12) (.call (.v (.lit (.func (.func 87) #[] #[]))) [(.t 10), (.t 11)]),
  .op (some 9) (.mv (.t 12)),
  .op (some 13) (.ext (.t 9) 0),
  .op (some 14) (.ext (.t 9) 1),
  .op (some 15) (.ext (.t 9) 2),
  .op (some 6) (.mv (.t 13)),
  .op (some 7) (.mv (.t 14)),
  .op (some 8) (.mv (.t 15))])
 (.seq (.seq (.reg [.op (some 16) (.mv (.t 8)),
  .op (some 17) (.un .not (.t 16))])
 (.cond (.t 17)
 (.seq (.reg [.op (some 18) (.build (List.replicate 6 (.lit (.int .i64 (0)))) []),
  .op none (.store 6 (.t 4) (.t 18)),
  .op (some 5) (.mv (.v (.lit (.bool false))))])
 .ret)
 .skip))
 (.seq (.reg [.op (some 19) (.mv (.t 6)),
  .op (some 20) (.mv (.t 7)),
  .op (some 21) (.binI .and (.t 19) (.t 20)),
  .op (some 22) (.call (.v (.lit (.func (.func 76) #[] #[]))) [(.t 21)]),
  .op none (.store 6 (.t 4) (.t 22)),
  .op (some 5) (.mv (.v (.lit (.bool true))))])
 .ret))))
def rs25 : List RR := [.cell 4 6 true, .tmp 5]
def cut25 : Nat → Nat := fun id => 0
theorem k25 : (Try.f25.body.bind fun c => comp Try.prog Try.f25.ntmps cut25 c) = some r25 := by kernel_rfl
theorem by25 {W0 : World} {σ : List Blk} {args : List AV} {K : Cont} (hn : args.length ≤ 23) (h : rW Try.prog W0 σ.length r25 (initFr args) σ (finP W0 rs25 σ.length K)) : ACall Try.prog W0 25 args σ K :=
  ACall.introR mixed Try.func25 (by kernel_rfl) k25 (by kernel_rfl) hn h
def r58 : RC := (.seq (.reg [.op (some 2) (.alloc 27 [(.lit (.int .i64 (0))), (.lit (.int .i64 (0)))])])
 (.seq (.seq (.reg [.op (some 3) (.mv (.t 0)),
  .op (some 4) (.call (.v (.lit (.func (.func 72) #[] #[]))) [(.t 3), (.v (.lit (.int .i64 (40))))])])
 (.cond (.t 4)
 (.seq (.reg [.op (some 5) (.mv (.t 0)),
  .op (some 6) (.bslice 3 1 3 [(.lit (.int .i64 (0)))] [(0, (.v (.lit (.int .i64 (-1))))), (1, (.v (.lit (.int .i64 (6))))), (2, (.v (.lit (.int .i64 (0)))))]),
  .op (some 7) (.call (.v (.lit (.func (.func 73) #[] #[]))) [(.t 5), (.t 6)]),
  .op (some 8) (.mv (.t 0)),
  .op (some 9) (.bslice 3 1 3 [(.lit (.int .i64 (0)))] [(0, (.v (.lit (.int .i64 (6))))), (1, (.v (.lit (.int .i64 (-1))))), (2, (.v (.lit (.int .i64 (4611686018427387904)))))]),
  .op (some 10) (.call (.v (.lit (.func (.func 73) #[] #[]))) [(.t 8), (.t 9)]),
  .op (some 11) (.build [(.lit (.int .i64 (0))), (.lit (.int .i64 (0)))] [((0, 1), (.t 7)), ((1, 1), (.t 10))]),
  .op none (.store 2 (.t 2) (.t 11))])
 .ret)
 .skip))
 (.seq (.reg [.op (some 12) (.mv (.t 0)),
  .op (some 13) (.call (.v (.lit (.func (.func 71) #[] #[]))) [(.t 12), (.v (.lit (.int .i64 (6))))]),
  .op (some 14) (.mv (.t 0)),
  .op (some 15) (.call (.v (.lit (.func (.func 71) #[] #[]))) [(.t 14), (.v (.lit (.int .i64 (6))))]),
  .op (some 16) (.build [(.lit (.int .i64 (0))), (.lit (.int .i64 (0)))] [((0, 1), (.t 13)), ((1, 1), (.t 15))]),
  .op none (.store 2 (.t 2) (.t 16))])
 .ret)))
def rs58 : List RR := [.cell 2 2 true]
def cut58 : Nat → Nat := fun id => 0
theorem k58 : (Try.f58.body.bind fun c => comp Try.prog Try.f58.ntmps cut58 c) = some r58 := by kernel_rfl
theorem by58 {W0 : World} {σ : List Blk} {args : List AV} {K : Cont} (hn : args.length ≤ 17) (h : rW Try.prog W0 σ.length r58 (initFr args) σ (finP W0 rs58 σ.length K)) : ACall Try.prog W0 58 args σ K :=
  ACall.introR mixed Try.func58 (by kernel_rfl) k58 (by kernel_rfl) hn h
def r59 : RC := (.seq (.reg [.op (some 2) (.alloc 26 (List.replicate 6 (.lit (.int .i64 (0)))))])
 (.seq (.seq (.reg [.op (some 8) (.mv (.t 0)),
  .op (some 9) (.call (.v (.lit (.func (.func 72) #[] #[]))) [(.t 8), (.v (.lit (.int .i64 (12))))])])
 (.cond (.t 9)
 (.seq (.reg [.op (some 10) (.mv (.t 0)),
  .op (some 11) (.call (.v (.lit (.func (.func 60) #[] #[]))) [(.t 10)]),
  .op none (.store 6 (.t 2) (.t 11))])
 .ret)
 .skip))
 (.seq (.reg [.op (some 12) (.build (List.replicate 6 (.lit (.int .i64 (0)))) []),
  .op (some 13) (.mv (.t 0)),
  .op (some 14) (.bslice 3 1 4 [(.lit (.int .i64 (0)))] [(0, (.v (.lit (.int .i64 (2))))), (1, (.v (.lit (.int .i64 (3))))), (2, (.v (.lit (.int .i64 (2))))), (3, (.v (.lit (.int .i64 (6)))))]),
  .op (some 15) (.call (.v (.lit (.func (.func 73) #[] #[]))) [(.t 13), (.t 14)]),
  .op (some 3) (.alloc 26 (List.replicate 6 (.lit (.int .i64 (0))))),
  .op none (.store 6 (.t 3) (.t 12)),
  .op (some 4) (.mv (.t 15))])
 (.seq (.seq (.reg [.op (some 16) (.mv (.t 0)),
  .op (some 17) (.bslice 3 1 6 [(.lit (.int .i64 (0)))] [(0, (.v (.lit (.int .i64 (3))))), (1, (.v (.lit (.int .i64 (2))))), (2, (.v (.lit (.int .i64 (1))))), (3, (.v (.lit (.int .i64 (4))))), (4, (.v (.lit (.int .i64 (5))))), (5, (.v (.lit (.int .i64 (0)))))]),
  .op (some 18) (.call (.v (.lit (.func (.func 73) #[] #[]))) [(.t 16), (.t 17)]),
  .op (some 5) (.mv (.t 18))])
 (.block 0 (.loop (.seq (.seq (.reg [.op (some 19) (.mv (.t 5)),
  .op (some 20) (.binI .gtr (.t 19) (.v (.lit (.int .i64 (0)))))])
 (.cond (.t 20)
 .skip
 (.exit 0)))
 (.seq (.block 1 (.seq (.reg [.op (some 23) (.mv (.t 0)),
  .op (some 24) (.mv (.t 4)),
  .op (some 25) (.call (.v (.lit (.func (.func 71) #[] #[]))) [(.t 23), (.t 24)]),
  .op (some 26) (.mv (.t 0)),
  .op (some 27) (.mv (.t 4)),
  .op (some 28) (.call (.v (.lit (.func (.func 71) #[] #[]))) [(.t 26), (.t 27)]),
  .op (some 6) (.mv (.t 25)),
  .op (some 7) (.mv (.t 28))])
 (.quiet [.op (some 29) (.mv (.t 7)),
  .op (some 30) (.mv (.t 7)),
  .op (some 31) (.faddr 0 (.t 3)),
  .op (some 32) (.iaddrA 6 1 (.t 31) (.t 30)),
  .op (some 33) (.load 1 false (.t 32)),
  .op (some 34) (.mv (.t 6)),
  .op (some 35) (.binI .shl (.v (.lit (.int .i64 (1)))) (.t 34)),
  .op (some 36) (.binI .or (.t 33) (.t 35)),
  .op (some 37) (.faddr 0 (.t 3)),
  .op (some 38) (.iaddrA 6 1 (.t 37) (.t 29))] [.op none (.store 1 (.t 38) (.t 36))])))
 (.reg [.op (some 21) (.mv (.t 5)),
  .op (some 22) (.binI .sub (.t 21) (.v (.lit (.int .i64 (1))))),
  .op (some 5) (.mv (.t 22))]))))))
 (.seq (.reg [.op (some 39) (.load 6 true (.t 3)),
  .op none (.store 6 (.t 2) (.t 39))])
 .ret)))))
def rs59 : List RR := [.cell 2 6 true]
def cut59 : Nat → Nat := fun id => if id = 8 then 20 else 0
theorem k59 : (Try.f59.body.bind fun c => comp Try.prog Try.f59.ntmps cut59 c) = some r59 := by kernel_rfl
theorem by59 {W0 : World} {σ : List Blk} {args : List AV} {K : Cont} (hn : args.length ≤ 40) (h : rW Try.prog W0 σ.length r59 (initFr args) σ (finP W0 rs59 σ.length K)) : ACall Try.prog W0 59 args σ K :=
  ACall.introR mixed Try.func59 (by kernel_rfl) k59 (by kernel_rfl) hn h
def r60 : RC := (.seq (.reg [.op (some 2) (.alloc 26 (List.replicate 6 (.lit (.int .i64 (0)))))])
 (.seq (.reg [.op (some 8) (.build (List.replicate 6 (.lit (.int .i64 (0)))) []),
  .op (some 9) (.mv (.t 0)),
  .op (some 10) (.bslice 3 1 5 [(.lit (.int .i64 (0)))] [(0, (.v (.lit (.int .i64 (2))))), (1, (.v (.lit (.int .i64 (4))))), (2, (.v (.lit (.int .i64 (3))))), (3, (.v (.lit (.int .i64 (1))))), (4, (.v (.lit (.int .i64 (6)))))]),
  .op (some 11) (.call (.v (.lit (.func (.func 73) #[] #[]))) [(.t 9), (.t 10)]),
  .op (some 3) (.alloc 26 (List.replicate 6 (.lit (.int .i64 (0))))),
  .op none (.store 6 (.t 3) (.t 8)),
  .op (some 4) (.mv (.t 11))])
 (.seq (.seq (.reg [.op (some 5) (.mv (.v (.lit (.int .i64 (0)))))])
 (.block 0 (.loop (.seq (.seq (.reg [.op (some 12) (.mv (.t 5)),
  .op (some 13) (.binI .lss (.t 12) (.v (.lit (.int .i64 (6)))))])
 (.cond (.t 13)
 .skip
 (.exit 0)))
 (.seq (.block 1 (.seq (.reg [.op (some 6) (.mv (.v (.lit (.int .i64 (0)))))])
 (.block 2 (.loop (.seq (.seq (.reg [.op (some 16) (.mv (.t 6)),
  .op (some 17) (.binI .lss (.t 16) (.v (.lit (.int .i64 (6)))))])
 (.cond (.t 17)
 .skip
 (.exit 2)))
 (.seq (.block 3 (.seq (.reg [.op (some 20) (.mv (.t 0)),
  .op (some 21) (.mv (.t 4)),
  .op (some 22) (.call (.v (.lit (.func (.func 72) #[] #[]))) [(.t 20), (.t 21)])])
 (.cond (.t 22)
 (.reg [.op (some 23) (.load 6 true (.t 3)),
  .op (some 24) (.mv (.t 6)),
  .op (some 25) (.mv (.t 5)),
  .op (some 26) (.call (.v (.lit (.func (.func 83) #[] #[]))) [(.t 23), (.t 24), (.t 25)]),
  .op none (.store 6 (.t 3) (.t 26))])
 .skip)))
 (.reg [.op (some 18) (.mv (.t 6)),
  .op (some 19) (.binI .add (.t 18) (.v (.lit (.int .i64 (1))))),
  .op (some 6) (.mv (.t 19))])))))))
 (.reg [.op (some 14) (.mv (.t 5)),
  .op (some 15) (.binI .add (.t 14) (.v (.lit (.int .i64 (1))))),
  .op (some 5) (.mv (.t 15))]))))))
 (.seq (.seq (.reg [.op (some 27) (.mv (.t 0)),
  .op (some 28) (.call (.v (.lit (.func (.func 71) #[] #[]))) [(.t 27), (.v (.lit (.int .i64 (40))))])])
 (.block 4 (.seq (.reg [.op (some 30) (.binI .eql (.t 28) (.v (.lit (.int .i64 (0))))),
  .op (some 29) (.mv (.t 30))])
 (.cond (.t 29)
 (.reg [.op (some 31) (.mv (.t 0)),
  .op (some 32) (.call (.v (.lit (.func (.func 71) #[] #[]))) [(.t 31), (.v (.lit (.int .i64 (6))))]),
  .op (some 33) (.mv (.t 0)),
  .op (some 34) (.bslice 3 1 3 [(.lit (.int .i64 (0)))] [(0, (.v (.lit (.int .i64 (-1))))), (1, (.v (.lit (.int .i64 (64))))), (2, (.v (.lit (.int .i64 (4611686018427387904)))))]),
  .op (some 35) (.call (.v (.lit (.func (.func 73) #[] #[]))) [(.t 33), (.t 34)]),
  .op (some 36) (.faddr 0 (.t 3)),
  .op (some 37) (.iaddrA 6 1 (.t 36) (.t 32)),
  .op none (.store 1 (.t 37) (.t 35))])
 (.seq (.reg [.op (some 39) (.binI .eql (.t 28) (.v (.lit (.int .i64 (1))))),
  .op (some 38) (.mv (.t 39))])
 (.cond (.t 38)
 (.seq (.reg [.op (some 40) (.build (List.replicate 6 (.lit (.int .i64 (0)))) []),
  .op none (.store 6 (.t 2) (.t 40))])
 .ret)
 (.seq (.seq (.reg [.op (some 42) (.binI .eql (.t 28) (.v (.lit (.int .i64 (2))))),
  .op (some 41) (.mv (.t 42))])
 (.cond (.t 41)
 .skip
 (.reg [.op (some 43) (.binI .eql (.t 28) (.v (.lit (.int .i64 (3))))),
  .op (some 41) (.mv (.t 43))])))
 (.cond (.t 41)
 (.seq (.reg [.op (some 7) (.mv (.v (.lit (.int .i64 (1)))))])
 (.block 5 (.loop (.seq (.seq (.reg [.op (some 44) (.mv (.t 7)),
  .op (some 45) (.binI .lss (.t 44) (.v (.lit (.int .i64 (6)))))])
 (.cond (.t 45)
 .skip
 (.exit 5)))
 (.seq (.block 6 (.reg [.op (some 48) (.mv (.t 7)),
  .op (some 49) (.mv (.t 7)),
  .op (some 50) (.binI .rem (.t 49) (.v (.lit (.int .i64 (2))))),
  .op (some 51) (.faddr 0 (.t 3)),
  .op (some 52) (.iaddrA 6 1 (.t 51) (.t 50)),
  .op (some 53) (.load 1 false (.t 52)),
  .op (some 54) (.faddr 0 (.t 3)),
  .op (some 55) (.iaddrA 6 1 (.t 54) (.t 48)),
  .op none (.store 1 (.t 55) (.t 53))]))
 (.reg [.op (some 46) (.mv (.t 7)),
  .op (some 47) (.binI .add (.t 46) (.v (.lit (.int .i64 (1))))),
  .op (some 7) (.mv (.t 47))]))))))
 .skip))))))))
 (.seq (.reg [.op (some 56) (.load 6 true (.t 3)),
  .op none (.store 6 (.t 2) (.t 56))])
 .ret)))))
def rs60 : List RR := [.cell 2 6 true]
def cut60 : Nat → Nat := fun id => 0
theorem k60 : (Try.f60.body.bind fun c => comp Try.prog Try.f60.ntmps cut60 c) = some r60 := by kernel_rfl
theorem by60 {W0 : World} {σ : List Blk} {args : List AV} {K : Cont} (hn : args.length ≤ 57) (h : rW Try.prog W0 σ.length r60 (initFr args) σ (finP W0 rs60 σ.length K)) : ACall Try.prog W0 60 args σ K :=
  ACall.introR mixed Try.func60 (by kernel_rfl) k60 (by kernel_rfl) hn h
def r61 : RC := (.seq (.reg [.op (some 4) (.box 26 (.t 0)),
  .op (some 5) (.box 26 (.t 1)),
  .op (some 6) (.box 27 (.t 2)),
  .op (some 8) (.alloc 26 (List.replicate 6 (.lit (.int .i64 (0))))),
  .op (some 9) (.mv (.v (.lit (.bool false))))])
 (.seq (.reg [.op (some 14) (.load 6 true (.t 4)),
  .op (some 15) (.load 6 true (.t 5)),
  .op (some 16) (.call (.v (.lit (.func (.func 87) #[] #[]))) [(.t 14), (.t 15)]),
  .op (some 13) (.mv (.t 16)),
  .op (some 17) (.ext (.t 13) 0),
  .op (some 18) (.ext (.t 13) 1),
  .op (some 19) (.ext (.t 13) 2),
  .op (some 10) (.mv (.t 17)),
  .op (some 11) (.mv (.t 18)),
  .op (some 12) (.mv (.t 19))])
 (.seq (.seq (.reg [.op (some 20) (.mv (.t 12)),
  .op (some 21) (.un .not (.t 20)),
  .op (some 22) (.mv (.t 21)),
  .grp 22 false [((some 23), (.load 2 true (.t 6))), ((some 24), (.call (.v (.lit (.func (.func 80) #[] #[]))) [(.t 23)])), ((some 25), (.un .not (.t 24)))],
  .op (some 26) (.pick (.t 22) (.v (.lit (.bool true))) (.t 25))])
 (.cond (.t 26)
 (.seq (.reg [.op (some 27) (.build (List.replicate 6 (.lit (.int .i64 (0)))) []),
  .op none (.store 6 (.t 8) (.t 27)),
  .op (some 9) (.mv (.v (.lit (.bool false))))])
 .ret)
 .skip))
 (.seq (.reg [.op (some 28) (.mv (.t 3)),
  .op (some 29) (.mv (.t 10)),
  .op (some 30) (.mv (.t 11)),
  .op (some 31) (.load 2 true (.t 6)),
  .op (some 32) (.call (.v (.lit (.func (.func 81) #[] #[]))) [(.t 31)]),
  .op (some 33) (.call (.v (.lit (.func (.func 111) #[] #[]))) [(.t 30), (.t 32)]),
  .op (some 34) (.call (.t 28) [(.t 29), (.t 33)]),
  .op (some 35) (.call (.v (.lit (.func (.func 76) #[] #[]))) [(.t 34)]),
  .op none (.store 6 (.t 8) (.t 35)),
  .op (some 9) (.mv (.v (.lit (.bool true))))])
 .ret))))
def rs61 : List RR := [.cell 8 6 true, .tmp 9]
def cut61 : Nat → Nat := fun id => 0
theorem k61 : (Try.f61.body.bind fun c => comp Try.prog Try.f61.ntmps cut61 c) = some r61 := by kernel_rfl
theorem by61 {W0 : World} {σ : List Blk} {args : List AV} {K : Cont} (hn : args.length ≤ 36) (h : rW Try.prog W0 σ.length r61 (initFr args) σ (finP W0 rs61 σ.length K)) : ACall Try.prog W0 61 args σ K :=
  ACall.introR mixed Try.func61 (by kernel_rfl) k61 (by kernel_rfl) hn h
def r62 : RC := (.seq (.reg [.op (some 4) (.mv (.v (.lit (.int .u64 (0)))))])
 (.seq (.reg [.op (some 5) (.mv (.t 0)),
  .op (some 6) (.mv (.t 1)),
  .op (some 7) (.binI .xor (.t 5) (.t 6)),
  .op (some 4) (.mv (.t 7))])
 .ret))
def rs62 : List RR := [.tmp 4]
def cut62 : Nat → Nat := fun id => 0
theorem k62 : (Try.f62.body.bind fun c => comp Try.prog Try.f62.ntmps cut62 c) = some r62 := by kernel_rfl
theorem by62 {W0 : World} {σ : List Blk} {args : List AV} {K : Cont} (hn : args.length ≤ 8) (h : rW Try.prog W0 σ.length r62 (initFr args) σ (finP W0 rs62 σ.length K)) : ACall Try.prog W0 62 args σ K :=
  ACall.introR mixed Try.func62 (by kernel_rfl) k62 (by kernel_rfl) hn h
def r63 : RC := (.seq (.reg [.op (some 3) (.box 26 (.t 0)),
  .op (some 4) (.box 26 (.t 1)),
  .op (some 5) (.box 27 (.t 2)),
  .op (some 6) (.mv (.v (.lit (.bool false))))])
 (.seq (.reg [.op (some 7) (.load 6 true (.t 3)),
  .op (some 8) (.call (.v (.lit (.func (.func 77) #[] #[]))) [(.t 7)]),
  .op (some 9) (.mv (.t 8)),
  .grp 9 true [((some 10), (.load 6 true (.t 4))), ((some 11), (.call (.v (.lit (.func (.func 77) #[] #[]))) [(.t 10)]))],
  .op (some 12) (.pick (.t 9) (.t 11) (.v (.lit (.bool false)))),
  .op (some 13) (.mv (.t 12)),
  .grp 13 true [((some 14), (.load 2 true (.t 5))), ((some 15), (.call (.v (.lit (.func (.func 82) #[] #[]))) [(.t 14)]))],
  .op (some 16) (.pick (.t 13) (.t 15) (.v (.lit (.bool false)))),
  .op (some 6) (.mv (.t 16))])
 .ret))
def rs63 : List RR := [.tmp 6]
def cut63 : Nat → Nat := fun id => 0
theorem k63 : (Try.f63.body.bind fun c => comp Try.prog Try.f63.ntmps cut63 c) = some r63 := by kernel_rfl
theorem by63 {W0 : World} {σ : List Blk} {args : List AV} {K : Cont} (hn : args.length ≤ 17) (h : rW Try.prog W0 σ.length r63 (initFr args) σ (finP W0 rs63 σ.length K)) : ACall Try.prog W0 63 args σ K :=
  ACall.introR mixed Try.func63 (by kernel_rfl) k63 (by kernel_rfl) hn h
def r64 : RC := (.seq (.reg [.op (some 2) (.box 26 (.t 0)),
  .op (some 3) (.box 26 (.t 1)),
  .op (some 4) (.alloc 26 (List.replicate 6 (.lit (.int .i64 (0)))))])
 (.seq (.seq (.reg [.op (some 5) (.mv (.v (.lit (.int .i64 (0)))))])
 (.block 0 (.loop (.seq (.seq (.reg [.op (some 6) (.mv (.t 5)),
  .op (some 7) (.binI .lss (.t 6) (.v (.lit (.int .i64 (6)))))])
 (.cond (.t 7)
 .skip
 (.exit 0)))
 (.seq (.block 1 (.quiet [.op (some 10) (.mv (.t 5)),
  .op (some 11) (.mv (.t 5)),
  .op (some 12) (.faddr 0 (.t 2)),
  .op (some 13) (.iaddrA 6 1 (.t 12) (.t 11)),
  .op (some 14) (.load 1 false (.t 13)),
  .op (some 15) (.mv (.t 5)),
  .op (some 16) (.faddr 0 (.t 3)),
  .op (some 17) (.iaddrA 6 1 (.t 16) (.t 15)),
  .op (some 18) (.load 1 false (.t 17)),
  .op (some 19) (.binI .xor (.t 14) (.t 18)),
  .op (some 20) (.faddr 0 (.t 2)),
  .op (some 21) (.iaddrA 6 1 (.t 20) (.t 10))] [.op none (.store 1 (.t 21) (.t 19))]))
 (.reg [.op (some 8) (.mv (.t 5)),
  .op (some 9) (.binI .add (.t 8) (.v (.lit (.int .i64 (1))))),
  .op (some 5) (.mv (.t 9))]))))))
 (.seq (.reg [.op (some 22) (.load 6 true (.t 2)),
  .op none (.store 6 (.t 4) (.t 22))])
 .ret)))
def rs64 : List RR := [.cell 4 6 true]
def cut64 : Nat → Nat := fun id => if id = 4 then 24 else 0
theorem k64 : (Try.f64.body.bind fun c => comp Try.prog Try.f64.ntmps cut64 c) = some r64 := by kernel_rfl
theorem by64 {W0 : World} {σ : List Blk} {args : List AV} {K : Cont} (hn : args.length ≤ 23) (h : rW Try.prog W0 σ.length r64 (initFr args) σ (finP W0 rs64 σ.length K)) : ACall Try.prog W0 64 args σ K :=
  ACall.introR mixed Try.func64 (by kernel_rfl) k64 (by kernel_rfl) hn h
def r65 : RC := (.seq (.reg [.op (some 2) (.box 26 (.t 0)),
  .op (some 3) (.box 27 (.t 1)),
  .op (some 4) (.alloc 26 (List.replicate 6 (.lit (.int .i64 (0)))))])
 (.seq (.reg [.op (some 5) (.load 6 true (.t 2)),
  .op (some 6) (.iaddrA 2 1 (.t 3) (.v (.lit (.int .i64 (0))))),
  .op (some 7) (.load 1 false (.t 6)),
  .op (some 8) (.iaddrA 2 1 (.t 3) (.v (.lit (.int .i64 (1))))),
  .op (some 9) (.load 1 false (.t 8)),
  .op (some 10) (.call (.v (.lit (.func (.func 78) #[] #[]))) [(.t 5), (.t 7), (.t 9)]),
  .op none (.store 6 (.t 4) (.t 10))])
 .ret))
def rs65 : List RR := [.cell 4 6 true]
def cut65 : Nat → Nat := fun id => 0
theorem k65 : (Try.f65.body.bind fun c => comp Try.prog Try.f65.ntmps cut65 c) = some r65 := by kernel_rfl
theorem by65 {W0 : World} {σ : List Blk} {args : List AV} {K : Cont} (hn : args.length ≤ 11) (h : rW Try.prog W0 σ.length r65 (initFr args) σ (finP W0 rs65 σ.length K)) : ACall Try.prog W0 65 args σ K :=
  ACall.introR mixed Try.func65 (by kernel_rfl) k65 (by kernel_rfl) hn h
def r66 : RC := (.seq (.reg [.op (some 4) (.mv (.v (.lit (.int .u64 (0)))))])
 (.seq (.reg [.op (some 5) (.mv (.t 0)),
  .op (some 6) (.mv (.t 1)),
  .op (some 7) (.binI .or (.t 5) (.t 6)),
  .op (some 4) (.mv (.t 7))])
 .ret))
def rs66 : List RR := [.tmp 4]
def cut66 : Nat → Nat := fun id => 0
theorem k66 : (Try.f66.body.bind fun c => comp Try.prog Try.f66.ntmps cut66 c) = some r66 := by kernel_rfl
theorem by66 {W0 : World} {σ : List Blk} {args : List AV} {K : Cont} (hn : args.length ≤ 8) (h : rW Try.prog W0 σ.length r66 (initFr args) σ (finP W0 rs66 σ.length K)) : ACall Try.prog W0 66 args σ K :=
  ACall.introR mixed Try.func66 (by kernel_rfl) k66 (by kernel_rfl) hn h
def r67 : RC := (.seq (.reg [.op (some 2) (.box 26 (.t 0)),
  .op (some 3) (.box 26 (.t 1)),
  .op (some 4) (.alloc 26 (List.replicate 6 (.lit (.int .i64 (0)))))])
 (.seq (.seq (.reg [.op (some 5) (.mv (.v (.lit (.int .i64 (0)))))])
 (.block 0 (.loop (.seq (.seq (.reg [.op (some 6) (.mv (.t 5)),
  .op (some 7) (.binI .lss (.t 6) (.v (.lit (.int .i64 (6)))))])
 (.cond (.t 7)
 .skip
 (.exit 0)))
 (.seq (.block 1 (.quiet [.op (some 10) (.mv (.t 5)),
  .op (some 11) (.mv (.t 5)),
  .op (some 12) (.faddr 0 (.t 2)),
  .op (some 13) (.iaddrA 6 1 (.t 12) (.t 11)),
  .op (some 14) (.load 1 false (.t 13)),
  .op (some 15) (.mv (.t 5)),
  .op (some 16) (.faddr 0 (.t 3)),
  .op (some 17) (.iaddrA 6 1 (.t 16) (.t 15)),
  .op (some 18) (.load 1 false (.t 17)),
  .op (some 19) (.binI .or (.t 14) (.t 18)),
  .op (some 20) (.faddr 0 (.t 2)),
  .op (some 21) (.iaddrA 6 1 (.t 20) (.t 10))] [.op none (.store 1 (.t 21) (.t 19))]))
 (.reg [.op (some 8) (.mv (.t 5)),
  .op (some 9) (.binI .add (.t 8) (.v (.lit (.int .i64 (1))))),
  .op (some 5) (.mv (.t 9))]))))))
 (.seq (.reg [.op (some 22) (.load 6 true (.t 2)),
  .op none (.store 6 (.t 4) (.t 22))])
 .ret)))
def rs67 : List RR := [.cell 4 6 true]
def cut67 : Nat → Nat := fun id => if id = 4 then 24 else 0
theorem k67 : (Try.f67.body.bind fun c => comp Try.prog Try.f67.ntmps cut67 c) = some r67 := by kernel_rfl
theorem by67 {W0 : World} {σ : List Blk} {args : List AV} {K : Cont} (hn : args.length ≤ 23) (h : rW Try.prog W0 σ.length r67 (initFr args) σ (finP W0 rs67 σ.length K)) : ACall Try.prog W0 67 args σ K :=
  ACall.introR mixed Try.func67 (by kernel_rfl) k67 (by kernel_rfl) hn h
def r68 : RC := (.seq (.reg [.op (some 4) (.mv (.v (.lit (.int .u64 (0)))))])
 (.seq (.reg [.op (some 5) (.mv (.t 0)),
  .op (some 6) (.mv (.t 1)),
  .op (some 7) (.binI .andNot (.t 5) (.t 6)),
  .op (some 4) (.mv (.t 7))])
 .ret))
def rs68 : List RR := [.tmp 4]
def cut68 : Nat → Nat := fun id => 0
theorem k68 : (Try.f68.body.bind fun c => comp Try.prog Try.f68.ntmps cut68 c) = some r68 := by kernel_rfl
theorem by68 {W0 : World} {σ : List Blk} {args : List AV} {K : Cont} (hn : args.length ≤ 8) (h : rW Try.prog W0 σ.length r68 (initFr args) σ (finP W0 rs68 σ.length K)) : ACall Try.prog W0 68 args σ K :=
  ACall.introR mixed Try.func68 (by kernel_rfl) k68 (by kernel_rfl) hn h
def r69 : RC := (.seq (.reg [.op (some 2) (.box 26 (.t 0)),
  .op (some 3) (.box 26 (.t 1)),
  .op (some 4) (.alloc 26 (List.replicate 6 (.lit (.int .i64 (0)))))])
 (.seq (.seq (.reg [.op (some 5) (.mv (.v (.lit (.int .i64 (0)))))])
 (.block 0 (.loop (.seq (.seq (.reg [.op (some 6) (.mv (.t 5)),
  .op (some 7) (.binI .lss (.t 6) (.v (.lit (.int .i64 (6)))))])
 (.cond (.t 7)
 .skip
 (.exit 0)))
 (.seq (.block 1 (.quiet [.op (some 10) (.mv (.t 5)),
  .op (some 11) (.mv (.t 5)),
  .op (some 12) (.faddr 0 (.t 2)),
  .op (some 13) (.iaddrA 6 1 (.t 12) (.t 11)),
  .op (some 14) (.load 1 false (.t 13)),
  .op (some 15) (.mv (.t 5)),
  .op (some 16) (.faddr 0 (.t 3)),
  .op (some 17) (.iaddrA 6 1 (.t 16) (.t 15)),
  .op (some 18) (.load 1 false (.t 17)),
  .op (some 19) (.binI .and (.t 14) (.t 18)),
  .op (some 20) (.faddr 0 (.t 2)),
  .op (some 21) (.iaddrA 6 1 (.t 20) (.t 10))] [.op none (.store 1 (.t 21) (.t 19))]))
 (.reg [.op (some 8) (.mv (.t 5)),
  .op (some 9) (.binI .add (.t 8) (.v (.lit (.int .i64 (1))))),
  .op (some 5) (.mv (.t 9))]))))))
 (.seq (.reg [.op (some 22) (.load 6 true (.t 2)),
  .op none (.store 6 (.t 4) (.t 22))])
 .ret)))
def rs69 : List RR := [.cell 4 6 true]
def cut69 : Nat → Nat := fun id => if id = 4 then 24 else 0
theorem k69 : (Try.f69.body.bind fun c => comp Try.prog Try.f69.ntmps cut69 c) = some r69 := by kernel_rfl
theorem by69 {W0 : World} {σ : List Blk} {args : List AV} {K : Cont} (hn : args.length ≤ 23) (h : rW Try.prog W0 σ.length r69 (initFr args) σ (finP W0 rs69 σ.length K)) : ACall Try.prog W0 69 args σ K :=
  ACall.introR mixed Try.func69 (by kernel_rfl) k69 (by kernel_rfl) hn h
def r70 : RC := (.seq (.reg [.op (some 1) (.box 26 (.t 0)),
  .op (some 2) (.alloc 26 (List.replicate 6 (.lit (.int .i64 (0)))))])
 (.seq (.seq (.reg [.op (some 3) (.mv (.v (.lit (.int .i64 (0)))))])
 (.block 0 (.loop (.seq (.seq (.reg [.op (some 4) (.mv (.t 3)),
  .op (some 5) (.binI .lss (.t 4) (.v (.lit (.int .i64 (6)))))])
 (.cond (.t 5)
 .skip
 (.exit 0)))
 (.seq (.block 1 (.reg [.op (some 8) (.mv (.t 3)),
  .op (some 9) (.mv (.t 3)),
  .op (some 10) (.faddr 0 (.t 1)),
  .op (some 11) (.iaddrA 6 1 (.t 10) (.t 9)),
  .op (some 12) (.load 1 false (.t 11)),
  .op (some 13) (.binI .sub (.v (.lit (.int .i64 (63)))) (.t 12)),
  .op (some 14) (.faddr 0 (.t 1)),
  .op (some 15) (.iaddrA 6 1 (.t 14) (.t 8)),
  .op none (.store 1 (.t 15) (.t 13))]))
 (.reg [.op (some 6) (.mv (.t 3)),
  .op (some 7) (.binI .add (.t 6) (.v (.lit (.int .i64 (1))))),
  .op (some 3) (.mv (.t 7))]))))))
 (.seq (.reg [.op (some 16) (.load 6 true (.t 1)),
  .op none (.store 6 (.t 2) (.t 16))])
 .ret)))
def rs70 : List RR := [.cell 2 6 true]
def cut70 : Nat → Nat := fun id => 0
theorem k70 : (Try.f70.body.bind fun c => comp Try.prog Try.f70.ntmps cut70 c) = some r70 := by kernel_rfl
theorem by70 {W0 : World} {σ : List Blk} {args : List AV} {K : Cont} (hn : args.length ≤ 17) (h : rW Try.prog W0 σ.length r70 (initFr args) σ (finP W0 rs70 σ.length K)) : ACall Try.prog W0 70 args σ K :=
  ACall.introR mixed Try.func70 (by kernel_rfl) k70 (by kernel_rfl) hn h
def r71 : RC := (.seq (.reg [.op (some 4) (.mv (.v (.lit (.int .i64 (0)))))])
 (.seq (.seq (.reg [.op (some 6) (.mv (.t 1)),
  .op (some 7) (.binI .leq (.t 6) (.v (.lit (.int .i64 (1)))))])
 (.cond (.t 7)
 (.seq (.reg [.op (some 4) (.mv (.v (.lit (.int .i64 (0)))))])
 .ret)
 .skip))
 (.seq (.reg [.op (some 8) (.mv (.t 0)),
  .op (some 9) (.call (.v (.lit (.func (.func 112) #[] #[]))) [(.t 8)]),
  .op (some 5) (.mv (.t 9))])
 (.seq (.seq (.reg [.op (some 10) (.mv (.t 1)),
  .op (some 11) (.binI .gtr (.t 10) (.v (.lit (.int .i64 (200)))))])
 (.cond (.t 11)
 (.reg [.op (some 12) (.mv (.t 5)),
  .op (some 13) (.binI .mul (.t 12) (.v (.lit (.int .i64 (256))))),
  .op (some 14) (.mv (.t 0)),
  .op (some 15) (.call (.v (.lit (.func (.func 112) #[] #[]))) [(.t 14)]),
  .op (some 16) (.binI .add (.t 13) (.t 15)),
  .op (some 5) (.mv (.t 16))])
 .skip))
 (.seq (.reg [.op (some 17) (.mv (.t 5)),
  .op (some 18) (.mv (.t 1)),
  .op (some 19) (.binI .rem (.t 17) (.t 18)),
  .op (some 4) (.mv (.t 19))])
 .ret)))))
def rs71 : List RR := [.tmp 4]
def cut71 : Nat → Nat := fun id => 0
theorem k71 : (Try.f71.body.bind fun c => comp Try.prog Try.f71.ntmps cut71 c) = some r71 := by kernel_rfl
theorem by71 {W0 : World} {σ : List Blk} {args : List AV} {K : Cont} (hn : args.length ≤ 20) (h : rW Try.prog W0 σ.length r71 (initFr args) σ (finP W0 rs71 σ.length K)) : ACall Try.prog W0 71 args σ K :=
  ACall.introR mixed Try.func71 (by kernel_rfl) k71 (by kernel_rfl) hn h
def r72 : RC := (.seq (.reg [.op (some 4) (.mv (.v (.lit (.bool false))))])
 (.seq (.reg [.op (some 5) (.mv (.t 0)),
  .op (some 6) (.mv (.t 1)),
  .op (some 7) (.call (.v (.lit (.func (.func 71) #[] #[]))) [(.t 5), (.t 6)]),
  .op (some 8) (.binI .eql (.t 7) (.v (.lit (.int .i64 (0))))),
  .op (some 4) (.mv (.t 8))])
 .ret))
def rs72 : List RR := [.tmp 4]
def cut72 : Nat → Nat := fun id => 0
theorem k72 : (Try.f72.body.bind fun c => comp Try.prog Try.f72.ntmps cut72 c) = some r72 := by kernel_rfl
theorem by72 {W0 : World} {σ : List Blk} {args : List AV} {K : Cont} (hn : args.length ≤ 9) (h : rW Try.prog W0 σ.length r72 (initFr args) σ (finP W0 rs72 σ.length K)) : ACall Try.prog W0 72 args σ K :=
  ACall.introR mixed Try.func72 (by kernel_rfl) k72 (by kernel_rfl) hn h
def r73 : RC := (.seq (.reg [.op (some 4) (.mv (.v (.lit (.int .i64 (0)))))])
 (.seq (.reg [.op (some 5) (.mv (.t 1)),
  .op (some 6) (.mv (.t 0)),
  .op (some 7) (.mv (.t 1)),
  .op (some 8) (.lenL (.t 7)),
  .op (some 9) (.call (.v (.lit (.func (.func 71) #[] #[]))) [(.t 6), (.t 8)]),
  .op (some 10) (.iaddrS 1 (.t 5) (.t 9)),
  .op (some 11) (.load 1 false (.t 10)),
  .op (some 4) (.mv (.t 11))])
 .ret))
def rs73 : List RR := [.tmp 4]
def cut73 : Nat → Nat := fun id => 0
theorem k73 : (Try.f73.body.bind fun c => comp Try.prog Try.f73.ntmps cut73 c) = some r73 := by kernel_rfl
theorem by73 {W0 : World} {σ : List Blk} {args : List AV} {K : Cont} (hn : args.length ≤ 12) (h : rW Try.prog W0 σ.length r73 (initFr args) σ (finP W0 rs73 σ.length K)) : ACall Try.prog W0 73 args σ K :=
  ACall.introR mixed Try.func73 (by kernel_rfl) k73 (by kernel_rfl) hn h
def r74 : RC := (.seq (.reg [.op (some 1) (.box 26 (.t 0)),
  .op (some 2) (.mv (.v (.lit (.int .u64 (0))))),
  .op (some 3) (.mv (.v (.lit (.bool false))))])
 (.seq (.reg [.op (some 4) (.mv (.v (.lit (.int .u64 (0)))))])
 (.seq (.seq (.reg [.op (some 7) (.faddr 0 (.t 1)),
  .op (some 8) (.load 6 true (.t 7)),
  .op (some 9) (.mv (.v (.lit (.int .i64 (0)))))])
 (.block 0 (.loop (.seq (.reg [.op (some 10) (.binI .lss (.t 9) (.v (.lit (.int .i64 (6)))))])
 (.seq (.cond (.t 10)
 .skip
 (.exit 0))
 (.seq (.block 1 (.seq (.reg [.op (some 11) (.mv (.t 9)),
  .op (some 12) (.idxA 6 1 false (.t 8) (.t 9)),
  .op (some 5) (.mv (.t 11)),
  .op (some 6) (.mv (.t 12))])
 (.seq (.seq (.reg [.op (some 13) (.mv (.t 6)),
  .op (some 14) (.binI .lss (.t 13) (.v (.lit (.int .i64 (0))))),
  .op (some 15) (.mv (.t 14)),
  .grp 15 false [((some 16), (.mv (.t 6))), ((some 17), (.binI .gtr (.t 16) (.v (.lit (.int .i64 (63))))))],
  .op (some 18) (.pick (.t 15) (.v (.lit (.bool true))) (.t 17))])
 (.cond (.t 18)
 (.seq (.reg [.op (some 2) (.mv (.v (.lit (.int .u64 (0))))),
  .op (some 3) (.mv (.v (.lit (.bool false))))])
 .ret)
 .skip))
 (.reg [.op (some 19) (.mv (.t 4)),
  .op (some 20) (.mv (.t 6)),
  .op (some 21) (.conv .u64 (.t 20)),
  .op (some 22) (.mv (.t 5)),
  .op (some 23) (.binI .mul (.t 22) (.v (.lit (.int .i64 (6))))),
  .op (some 24) (.binI .shl (.t 21) (.t 23)),
  .op (some 25) (.binI .or (.t 19) (.t 24)),
  .op (some 4) (.mv (.t 25))]))))
 (.reg [.op (some 26) (.binI .add (.t 9) (.v (.lit (.int .i64 (1))))),
  .op (some 9) (.mv (.t 26))])))))))
 (.seq (.reg [.op (some 27) (.mv (.t 4)),
  .op (some 2) (.mv (.t 27)),
  .op (some 3) (.mv (.v (.lit (.bool true))))])
 .ret))))
def rs74 : List RR := [.tmp 2, .tmp 3]
def cut74 : Nat → Nat := fun id => 0
theorem k74 : (Try.f74.body.bind fun c => comp Try.prog Try.f74.ntmps cut74 c) = some r74 := by kernel_rfl
theorem by74 {W0 : World} {σ : List Blk} {args : List AV} {K : Cont} (hn : args.length ≤ 28) (h : rW Try.prog W0 σ.length r74 (initFr args) σ (finP W0 rs74 σ.length K)) : ACall Try.prog W0 74 args σ K :=
  ACall.introR mixed Try.func74 (by kernel_rfl) k74 (by kernel_rfl) hn h
def r75 : RC := (.seq (.reg [.op (some 4) (.box 3 (.t 1)),
  .op (some 5) (.box 3 (.t 2)),
  .op (some 6) (.mv (.v (.lit (.int .u64 (0)))))])
 (.seq (.quiet [.op (some 7) (.load 1 false (.t 4)),
  .op (some 8) (.call (.v (.lit (.func (.func 113) #[] #[]))) [(.t 7)]),
  .op (some 9) (.load 1 false (.t 5)),
  .op (some 10) (.call (.v (.lit (.func (.func 113) #[] #[]))) [(.t 9)])] [.op none (.store 1 (.t 4) (.t 8)),
  .op none (.store 1 (.t 5) (.t 10))])
 (.seq (.reg [.op (some 11) (.mv (.t 0)),
  .op (some 12) (.mkfn (.func 115) [] [(.t 4), (.t 5)]),
  .op (some 13) (.call (.v (.lit (.func (.func 114) #[] #[]))) [(.t 11), (.t 12)]),
  .op (some 6) (.mv (.t 13))])
 .ret)))
def rs75 : List RR := [.tmp 6]
def cut75 : Nat → Nat := fun id => if id = 1 then 8 else 0
theorem k75 : (Try.f75.body.bind fun c => comp Try.prog Try.f75.ntmps cut75 c) = some r75 := by kernel_rfl
theorem by75 {W0 : World} {σ : List Blk} {args : List AV} {K : Cont} (hn : args.length ≤ 14) (h : rW Try.prog W0 σ.length r75 (initFr args) σ (finP W0 rs75 σ.length K)) : ACall Try.prog W0 75 args σ K :=
  ACall.introR mixed Try.func75 (by kernel_rfl) k75 (by kernel_rfl) hn h
def r76 : RC := (.seq (.reg [.op (some 2) (.alloc 26 (List.replicate 6 (.lit (.int .i64 (0)))))])
 (.seq (.reg [.op (some 5) (.build (List.replicate 6 (.lit (.int .i64 (0)))) []),
  .op (some 3) (.alloc 26 (List.replicate 6 (.lit (.int .i64 (0))))),
  .op none (.store 6 (.t 3) (.t 5))])
 (.seq (.seq (.reg [.op (some 6) (.mv (.v (.lit (.int .i64 (0)))))])
 (.block 0 (.loop (.seq (.reg [.op (some 7) (.binI .lss (.t 6) (.v (.lit (.int .i64 (6)))))])
 (.seq (.cond (.t 7)
 .skip
 (.exit 0))
 (.seq (.block 1 (.seq (.reg [.op (some 8) (.mv (.t 6)),
  .op (some 4) (.mv (.t 8))])
 (.reg [.op (some 9) (.mv (.t 4)),
  .op (some 10) (.mv (.t 0)),
  .op (some 11) (.mv (.t 4)),
  .op (some 12) (.binI .mul (.t 11) (.v (.lit (.int .i64 (6))))),
  .op (some 13) (.binI .shr (.t 10) (.t 12)),
  .op (some 14) (.binI .and (.t 13) (.v (.lit (.int .u64 (63))))),
  .op (some 15) (.conv .i64 (.t 14)),
  .op (some 16) (.faddr 0 (.t 3)),
  .op (some 17) (.iaddrA 6 1 (.t 16) (.t 9)),
  .op none (.store 1 (.t 17) (.t 15))])))
 (.reg [.op (some 18) (.binI .add (.t 6) (.v (.lit (.int .i64 (1))))),
  .op (some 6) (.mv (.t 18))])))))))
 (.seq (.reg [.op (some 19) (.load 6 true (.t 3)),
  .op none (.store 6 (.t 2) (.t 19))])
 .ret))))
def rs76 : List RR := [.cell 2 6 true]
def cut76 : Nat → Nat := fun id => 0
theorem k76 : (Try.f76.body.bind fun c => comp Try.prog Try.f76.ntmps cut76 c) = some r76 := by kernel_rfl
theorem by76 {W0 : World} {σ : List Blk} {args : List AV} {K : Cont} (hn : args.length ≤ 20) (h : rW Try.prog W0 σ.length r76 (initFr args) σ (finP W0 rs76 σ.length K)) : ACall Try.prog W0 76 args σ K :=
  ACall.introR mixed Try.func76 (by kernel_rfl) k76 (by kernel_rfl) hn h
def r77 : RC := (.seq (.reg [.op (some 1) (.box 26 (.t 0)),
  .op (some 2) (.mv (.v (.lit (.bool false))))])
 (.seq (.seq (.reg [.op (some 3) (.mv (.v (.lit (.int .i64 (0)))))])
 (.block 0 (.loop (.seq (.seq (.reg [.op (some 4) (.mv (.t 3)),
  .op (some 5) (.binI .lss (.t 4) (.v (.lit (.int .i64 (6)))))])
 (.cond (.t 5)
 .skip
 (.exit 0)))
 (.seq (.block 1 (.seq (.reg [.op (some 8) (.mv (.t 3)),
  .op (some 9) (.faddr 0 (.t 1)),
  .op (some 10) (.iaddrA 6 1 (.t 9) (.t 8)),
  .op (some 11) (.load 1 false (.t 10)),
  .op (some 12) (.call (.v (.lit (.func (.func 109) #[] #[]))) [(.t 11), (.v (.lit (.int .i64 (0)))), (.v (.lit (.int .i64 (63))))]),
  .op (some 13) (.un .not (.t 12))])
 (.cond (.t 13)
 (.seq (.reg [.op (some 2) (.mv (.v (.lit (.bool false))))])
 .ret)
 .skip)))
 (.reg [.op (some 6) (.mv (.t 3)),
  .op (some 7) (.binI .add (.t 6) (.v (.lit (.int .i64 (1))))),
  .op (some 3) (.mv (.t 7))]))))))
 (.seq (.reg [.op (some 2) (.mv (.v (.lit (.bool true))))])
 .ret)))
def rs77 : List RR := [.tmp 2]
def cut77 : Nat → Nat := fun id => 0
theorem k77 : (Try.f77.body.bind fun c => comp Try.prog Try.f77.ntmps cut77 c) = some r77 := by kernel_rfl
theorem by77 {W0 : World} {σ : List Blk} {args : List AV} {K : Cont} (hn : args.length ≤ 14) (h : rW Try.prog W0 σ.length r77 (initFr args) σ (finP W0 rs77 σ.length K)) : ACall Try.prog W0 77 args σ K :=
  ACall.introR mixed Try.func77 (by kernel_rfl) k77 (by kernel_rfl) hn h
def r78 : RC := (.seq (.reg [.op (some 3) (.box 26 (.t 0)),
  .op (some 6) (.alloc 26 (List.replicate 6 (.lit (.int .i64 (0)))))])
 (.seq (.reg [.op (some 12) (.build (List.replicate 6 (.lit (.int .i64 (0)))) []),
  .op (some 13) (.mv (.t 1)),
  .op (some 14) (.call (.v (.lit (.func (.func 116) #[] #[]))) [(.t 13)]),
  .op (some 15) (.mv (.t 2)),
  .op (some 16) (.call (.v (.lit (.func (.func 116) #[] #[]))) [(.t 15)]),
  .op (some 7) (.alloc 26 (List.replicate 6 (.lit (.int .i64 (0))))),
  .op none (.store 6 (.t 7) (.t 12)),
  .op (some 8) (.mv (.t 14)),
  .op (some 9) (.mv (.t 16))])
 (.seq (.seq (.reg [.op (some 10) (.mv (.v (.lit (.int .i64 (0)))))])
 (.block 0 (.loop (.seq (.seq (.reg [.op (some 17) (.mv (.t 10)),
  .op (some 18) (.binI .lss (.t 17) (.v (.lit (.int .i64 (6)))))])
 (.cond (.t 18)
 .skip
 (.exit 0)))
 (.seq (.block 1 (.seq (.reg [.op (some 21) (.mv (.t 10)),
  .op (some 22) (.faddr 0 (.t 3)),
  .op (some 23) (.iaddrA 6 1 (.t 22) (.t 21)),
  .op (some 24) (.load 1 false (.t 23)),
  .op (some 11) (.mv (.t 24))])
 (.draw [((some 25), (.mv (.t 10))), ((some 26), (.mv (.t 9))), ((some 27), (.binI .add (.t 25) (.t 26))), ((some 28), (.binI .rem (.t 27) (.v (.lit (.int .i64 (6)))))), ((some 29), (.mv (.t 11))), ((some 30), (.mv (.t 8))), ((some 31), (.binI .shl (.t 29) (.t 30))), ((some 32), (.binI .and (.t 31) (.v (.lit (.int .i64 (63)))))), ((some 33), (.mv (.t 11))), ((some 34), (.mv (.t 8))), ((some 35), (.binI .sub (.v (.lit (.int .i64 (6)))) (.t 34))), ((some 36), (.binI .shr (.t 33) (.t 35))), ((some 37), (.binI .or (.t 32) (.t 36)))] [((some 38), (.faddr 0 (.t 7))), ((some 39), (.iaddrA 6 1 (.t 38) (.t 28))), (none, (.store 1 (.t 39) (.t 37)))])))
 (.reg [.op (some 19) (.mv (.t 10)),
  .op (some 20) (.binI .add (.t 19) (.v (.lit (.int .i64 (1))))),
  .op (some 10) (.mv (.t 20))]))))))
 (.seq (.reg [.op (some 40) (.load 6 true (.t 7)),
  .op none (.store 6 (.t 6) (.t 40))])
 .ret))))
def rs78 : List RR := [.cell 6 6 true]
def cut78 : Nat → Nat := fun id => if id = 6 then 27 else 0
theorem k78 : (Try.f78.body.bind fun c => comp Try.prog Try.f78.ntmps cut78 c) = some r78 := by kernel_rfl
theorem by78 {W0 : World} {σ : List Blk} {args : List AV} {K : Cont} (hn : args.length ≤ 41) (h : rW Try.prog W0 σ.length r78 (initFr args) σ (finP W0 rs78 σ.length K)) : ACall Try.prog W0 78 args σ K :=
  ACall.introR mixed Try.func78 (by kernel_rfl) k78 (by kernel_rfl) hn h
def r79 : RC := (.seq (.reg [.op (some 2) (.alloc 26 (List.replicate 6 (.lit (.int .i64 (0))))),
  .op (some 3) (.alloc 27 [(.lit (.int .i64 (0))), (.lit (.int .i64 (0)))])])
 (.seq (.reg [.op (some 6) (.mv (.t 0)),
  .op (some 7) (.build [(.lit (.slice none 0 0)), (.lit (.int .i64 (0))), (.lit (.int .u64 (0)))] [((0, 1), (.t 6))]),
  .op (some 8) (.box 92 (.t 7)),
  .op (some 4) (.mv (.t 8))])
 (.seq (.reg [.op (some 9) (.mv (.t 4)),
  .op (some 10) (.call (.v (.lit (.func (.func 58) #[] #[]))) [(.t 9)]),
  .op (some 5) (.alloc 27 [(.lit (.int .i64 (0))), (.lit (.int .i64 (0)))]),
  .op none (.store 2 (.t 5) (.t 10))])
 (.seq (.any true (.n ⟨none, (some 11), (.mv (.t 4))⟩
 (.h ⟨none, (some 13), (.load 2 true (.t 5))⟩
 (.t ⟨none, (some 12), (.call (.v (.lit (.func (.func 60) #[] #[]))) [(.t 11)])⟩
 (.t ⟨none, none, (.store 6 (.t 2) (.t 12))⟩
 (.t ⟨none, none, (.store 2 (.t 3) (.t 13))⟩
 .fin))))))
 .ret))))
def rs79 : List RR := [.cell 2 6 true, .cell 3 2 true]
def cut79 : Nat → Nat := fun id => if id = 3 then 1000053 else 0
theorem k79 : (Try.f79.body.bind fun c => comp Try.prog Try.f79.ntmps cut79 c) = some r79 := by kernel_rfl
theorem by79 {W0 : World} {σ : List Blk} {args : List AV} {K : Cont} (hn : args.length ≤ 14) (h : rW Try.prog W0 σ.length r79 (initFr args) σ (finP W0 rs79 σ.length K)) : ACall Try.prog W0 79 args σ K :=
  ACall.introR mixed Try.func79 (by kernel_rfl) k79 (by kernel_rfl) hn h
def r80 : RC := (.seq (.reg [.op (some 1) (.box 27 (.t 0)),
  .op (some 2) (.mv (.v (.lit (.bool false))))])
 (.seq (.reg [.op (some 3) (.iaddrA 2 1 (.t 1) (.v (.lit (.int .i64 (0))))),
  .op (some 4) (.load 1 false (.t 3)),
  .op (some 5) (.binI .geq (.t 4) (.v (.lit (.int .i64 (0))))),
  .op (some 6) (.mv (.t 5)),
  .grp 6 true [((some 7), (.iaddrA 2 1 (.t 1) (.v (.lit (.int .i64 (0)))))), ((some 8), (.load 1 false (.t 7))), ((some 9), (.binI .lss (.t 8) (.v (.lit (.int .i64 (6))))))],
  .op (some 10) (.pick (.t 6) (.t 9) (.v (.lit (.bool false)))),
  .op (some 11) (.mv (.t 10)),
  .grp 11 true [((some 12), (.iaddrA 2 1 (.t 1) (.v (.lit (.int .i64 (1)))))), ((some 13), (.load 1 false (.t 12))), ((some 14), (.binI .geq (.t 13) (.v (.lit (.int .i64 (0))))))],
  .op (some 15) (.pick (.t 11) (.t 14) (.v (.lit (.bool false)))),
  .op (some 16) (.mv (.t 15)),
  .grp 16 true [((some 17), (.iaddrA 2 1 (.t 1) (.v (.lit (.int .i64 (1)))))), ((some 18), (.load 1 false (.t 17))), ((some 19), (.binI .lss (.t 18) (.v (.lit (.int .i64 (6))))))],
  .op (some 20) (.pick (.t 16) (.t 19) (.v (.lit (.bool false)))),
  .op (some 2) (.mv (.t 20))])
 .ret))
def rs80 : List RR := [.tmp 2]
def cut80 : Nat → Nat := fun id => 0
theorem k80 : (Try.f80.body.bind fun c => comp Try.prog Try.f80.ntmps cut80 c) = some r80 := by kernel_rfl
theorem by80 {W0 : World} {σ : List Blk} {args : List AV} {K : Cont} (hn : args.length ≤ 21) (h : rW Try.prog W0 σ.length r80 (initFr args) σ (finP W0 rs80 σ.length K)) : ACall Try.prog W0 80 args σ K :=
  ACall.introR mixed Try.func80 (by kernel_rfl) k80 (by kernel_rfl) hn h
def r81 : RC := (.seq (.reg [.op (some 1) (.box 27 (.t 0)),
  .op (some 2) (.mv (.v (.lit (.int .i64 (0)))))])
 (.seq (.reg [.op (some 3) (.iaddrA 2 1 (.t 1) (.v (.lit (.int .i64 (1))))),
  .op (some 4) (.load 1 false (.t 3)),
  .op (some 5) (.binI .mul (.t 4) (.v (.lit (.int .i64 (6))))),
  .op (some 6) (.iaddrA 2 1 (.t 1) (.v (.lit (.int .i64 (0))))),
  .op (some 7) (.load 1 false (.t 6)),
  .op (some 8) (.binI .add (.t 5) (.t 7)),
  .op (some 2) (.mv (.t 8))])
 .ret))
def rs81 : List RR := [.tmp 2]
def cut81 : Nat → Nat := fun id => 0
theorem k81 : (Try.f81.body.bind fun c => comp Try.prog Try.f81.ntmps cut81 c) = some r81 := by kernel_rfl
theorem by81 {W0 : World} {σ : List Blk} {args : List AV} {K : Cont} (hn : args.length ≤ 9) (h : rW Try.prog W0 σ.length r81 (initFr args) σ (finP W0 rs81 σ.length K)) : ACall Try.prog W0 81 args σ K :=
  ACall.introR mixed Try.func81 (by kernel_rfl) k81 (by kernel_rfl) hn h
def r82 : RC := (.seq (.reg [.op (some 1) (.box 27 (.t 0)),
  .op (some 2) (.mv (.v (.lit (.bool false))))])
 (.seq (.reg [.op (some 3) (.iaddrA 2 1 (.t 1) (.v (.lit (.int .i64 (0))))),
  .op (some 4) (.load 1 false (.t 3)),
  .op (some 5) (.call (.v (.lit (.func (.func 109) #[] #[]))) [(.t 4), (.v (.lit (.int .i64 (0)))), (.v (.lit (.int .i64 (5))))]),
  .op (some 6) (.mv (.t 5)),
  .grp 6 true [((some 7), (.iaddrA 2 1 (.t 1) (.v (.lit (.int .i64 (1)))))), ((some 8), (.load 1 false (.t 7))), ((some 9), (.call (.v (.lit (.func (.func 109) #[] #[]))) [(.t 8), (.v (.lit (.int .i64 (0)))), (.v (.lit (.int .i64 (5))))]))],
  .op (some 10) (.pick (.t 6) (.t 9) (.v (.lit (.bool false)))),
  .op (some 2) (.mv (.t 10))])
 .ret))
def rs82 : List RR := [.tmp 2]
def cut82 : Nat → Nat := fun id => 0
theorem k82 : (Try.f82.body.bind fun c => comp Try.prog Try.f82.ntmps cut82 c) = some r82 := by kernel_rfl
theorem by82 {W0 : World} {σ : List Blk} {args : List AV} {K : Cont} (hn : args.length ≤ 11) (h : rW Try.prog W0 σ.length r82 (initFr args) σ (finP W0 rs82 σ.length K)) : ACall Try.prog W0 82 args σ K :=
  ACall.introR mixed Try.func82 (by kernel_rfl) k82 (by kernel_rfl) hn h
def r83 : RC := (.seq (.reg [.op (some 3) (.box 26 (.t 0)),
  .op (some 6) (.alloc 26 (List.replicate 6 (.lit (.int .i64 (0)))))])
 (.seq (.quiet [.op (some 7) (.mv (.t 2)),
  .op (some 8) (.mv (.t 2)),
  .op (some 9) (.faddr 0 (.t 3)),
  .op (some 10) (.iaddrA 6 1 (.t 9) (.t 8)),
  .op (some 11) (.load 1 false (.t 10)),
  .op (some 12) (.mv (.t 1)),
  .op (some 13) (.binI .shl (.v (.lit (.int .i64 (1)))) (.t 12)),
  .op (some 14) (.binI .xor (.t 11) (.t 13)),
  .op (some 15) (.faddr 0 (.t 3)),
  .op (some 16) (.iaddrA 6 1 (.t 15) (.t 7))] [.op none (.store 1 (.t 16) (.t 14))])
 (.seq (.reg [.op (some 17) (.load 6 true (.t 3)),
  .op none (.store 6 (.t 6) (.t 17))])
 .ret)))
def rs83 : List RR := [.cell 6 6 true]
def cut83 : Nat → Nat := fun id => if id = 1 then 20 else 0
theorem k83 : (Try.f83.body.bind fun c => comp Try.prog Try.f83.ntmps cut83 c) = some r83 := by kernel_rfl
theorem by83 {W0 : World} {σ : List Blk} {args : List AV} {K : Cont} (hn : args.length ≤ 18) (h : rW Try.prog W0 σ.length r83 (initFr args) σ (finP W0 rs83 σ.length K)) : ACall Try.prog W0 83 args σ K :=
  ACall.introR mixed Try.func83 (by kernel_rfl) k83 (by kernel_rfl) hn h
def r84 : RC := (.seq (.reg [.op (some 4) (.mv (.v (.lit (.bool false))))])
 (.seq (.reg [.op (some 5) (.mv (.t 0)),
  .op (some 6) (.mv (.t 1)),
  .op (some 7) (.binI .shr (.t 5) (.t 6)),
  .op (some 8) (.binI .and (.t 7) (.v (.lit (.int .u64 (1))))),
  .op (some 9) (.binI .eql (.t 8) (.v (.lit (.int .u64 (1))))),
  .op (some 4) (.mv (.t 9))])
 .ret))
def rs84 : List RR := [.tmp 4]
def cut84 : Nat → Nat := fun id => 0
theorem k84 : (Try.f84.body.bind fun c => comp Try.prog Try.f84.ntmps cut84 c) = some r84 := by kernel_rfl
theorem by84 {W0 : World} {σ : List Blk} {args : List AV} {K : Cont} (hn : args.length ≤ 10) (h : rW Try.prog W0 σ.length r84 (initFr args) σ (finP W0 rs84 σ.length K)) : ACall Try.prog W0 84 args σ K :=
  ACall.introR mixed Try.func84 (by kernel_rfl) k84 (by kernel_rfl) hn h
def r85 : RC := (.seq (.reg [.op (some 3) (.box 26 (.t 0)),
  .op (some 6) (.mv (.v (.lit (.bool false))))])
 (.seq (.reg [.op (some 7) (.mv (.t 2)),
  .op (some 8) (.faddr 0 (.t 3)),
  .op (some 9) (.iaddrA 6 1 (.t 8) (.t 7)),
  .op (some 10) (.load 1 false (.t 9)),
  .op (some 11) (.mv (.t 1)),
  .op (some 12) (.binI .shr (.t 10) (.t 11)),
  .op (some 13) (.binI .and (.t 12) (.v (.lit (.int .i64 (1))))),
  .op (some 14) (.binI .eql (.t 13) (.v (.lit (.int .i64 (1))))),
  .op (some 6) (.mv (.t 14))])
 .ret))
def rs85 : List RR := [.tmp 6]
def cut85 : Nat → Nat := fun id => 0
theorem k85 : (Try.f85.body.bind fun c => comp Try.prog Try.f85.ntmps cut85 c) = some r85 := by kernel_rfl
theorem by85 {W0 : World} {σ : List Blk} {args : List AV} {K : Cont} (hn : args.length ≤ 15) (h : rW Try.prog W0 σ.length r85 (initFr args) σ (finP W0 rs85 σ.length K)) : ACall Try.prog W0 85 args σ K :=
  ACall.introR mixed Try.func85 (by kernel_rfl) k85 (by kernel_rfl) hn h
def r86 : RC := (.seq (.reg [.op (some 2) (.mv (.v (.lit (.int .i64 (0)))))])
 (.seq (.reg [.op (some 3) (.mv (.t 0)),
  .op (some 4) (.call (.v (.lit (.func (.func 117) #[] #[]))) [(.t 3)]),
  .op (some 2) (.mv (.t 4))])
 .ret))
def rs86 : List RR := [.tmp 2]
def cut86 : Nat → Nat := fun id => 0
theorem k86 : (Try.f86.body.bind fun c => comp Try.prog Try.f86.ntmps cut86 c) = some r86 := by kernel_rfl
theorem by86 {W0 : World} {σ : List Blk} {args : List AV} {K : Cont} (hn : args.length ≤ 5) (h : rW Try.prog W0 σ.length r86 (initFr args) σ (finP W0 rs86 σ.length K)) : ACall Try.prog W0 86 args σ K :=
  ACall.introR mixed Try.func86 (by kernel_rfl) k86 (by kernel_rfl) hn h
def r87 : RC := (.seq (.reg [.op (some 2) (.box 26 (.t 0)),
  .op (some 3) (.box 26 (.t 1)),
  .op (some 4) (.mv (.v (.lit (.int .u64 (0))))),
  .op (some 5) (.mv (.v (.lit (.int .u64 (0))))),
  .op (some 6) (.mv (.v (.lit (.bool false))))])
 (.seq (.reg [.op (some 12) (.load 6 true (.t 2)),
  .op (some 13) (.call (.v (.lit (.func (.func 74) #[] #[]))) [(.t 12)]),
  .op (some 11) (.mv (.t 13)),
  .op (some 14) (.ext (.t 11) 0),
  .op (some 15) (.ext (.t 11) 1),
  .op (some 7) (.mv (.t 14)),
  .op (some 8) (.mv (.t 15))])
 (.seq (.reg [.op (some 17) (.load 6 true (.t 3)),
  .op (some 18) (.call (.v (.lit (.func (.func 74) #[] #[]))) [(.t 17)]),
  .op (some 16) (.mv (.t 18)),
  .op (some 19) (.ext (.t 16) 0),
  .op (some 20) (.ext (.t 16) 1),
  .op (some 9) (.mv (.t 19)),
  .op (some 10) (.mv (.t 20))])
 (.seq (.reg [.op (some 21) (.mv (.t 7)),
  .op (some 22) (.mv (.t 9)),
  .op (some 23) (.mv (.t 8)),
  .op (some 24) (.mv (.t 23)),
  .grp 24 true [((some 25), (.mv (.t 10)))],
  .op (some 26) (.pick (.t 24) (.t 25) (.v (.lit (.bool false)))),
  .op (some 4) (.mv (.t 21)),
  .op (some 5) (.mv (.t 22)),
  .op (some 6) (.mv (.t 26))])
 .ret))))
def rs87 : List RR := [.tmp 4, .tmp 5, .tmp 6]
def cut87 : Nat → Nat := fun id => 0
theorem k87 : (Try.f87.body.bind fun c => comp Try.prog Try.f87.ntmps cut87 c) = some r87 := by kernel_rfl
theorem by87 {W0 : World} {σ : List Blk} {args : List AV} {K : Cont} (hn : args.length ≤ 27) (h : rW Try.prog W0 σ.length r87 (initFr args) σ (finP W0 rs87 σ.length K)) : ACall Try.prog W0 87 args σ K :=
  ACall.introR mixed Try.func87 (by kernel_rfl) k87 (by kernel_rfl) hn h
def r109 : RC := (.seq (.reg [.op (some 6) (.mv (.v (.lit (.bool false))))])
 (.seq (.reg [.op (some 7) (.mv (.t 0)),
  .op (some 8) (.mv (.t 1)),
  .op (some 9) (.binI .geq (.t 7) (.t 8)),
  .op (some 10) (.mv (.t 9)),
  .grp 10 true [((some 11), (.mv (.t 0))), ((some 12), (.mv (.t 2))), ((some 13), (.binI .leq (.t 11) (.t 12)))],
  .op (some 14) (.pick (.t 10) (.t 13) (.v (.lit (.bool false)))),
  .op (some 6) (.mv (.t 14))])
 .ret))
def rs109 : List RR := [.tmp 6]
def cut109 : Nat → Nat := fun id => 0
theorem k109 : (Try.f109.body.bind fun c => comp Try.prog Try.f109.ntmps cut109 c) = some r109 := by kernel_rfl
theorem by109 {W0 : World} {σ : List Blk} {args : List AV} {K : Cont} (hn : args.length ≤ 15) (h : rW Try.prog W0 σ.length r109 (initFr args) σ (finP W0 rs109 σ.length K)) : ACall Try.prog W0 109 args σ K :=
  ACall.introR mixed Try.func109 (by kernel_rfl) k109 (by kernel_rfl) hn h
def r111 : RC := (.seq (.reg [.op (some 4) (.mv (.v (.lit (.int .u64 (0)))))])
 (.seq (.reg [.op (some 5) (.mv (.t 0)),
  .op (some 6) (.mv (.t 1)),
  .op (some 7) (.binI .rem (.t 6) (.v (.lit (.int .i64 (6))))),
  .op (some 8) (.mv (.t 1)),
  .op (some 9) (.binI .quo (.t 8) (.v (.lit (.int .i64 (6))))),
  .op (some 10) (.call (.v (.lit (.func (.func 75) #[] #[]))) [(.t 5), (.t 7), (.t 9)]),
  .op (some 4) (.mv (.t 10))])
 .ret))
def rs111 : List RR := [.tmp 4]
def cut111 : Nat → Nat := fun id => 0
theorem k111 : (Try.f111.body.bind fun c => comp Try.prog Try.f111.ntmps cut111 c) = some r111 := by kernel_rfl
theorem by111 {W0 : World} {σ : List Blk} {args : List AV} {K : Cont} (hn : args.length ≤ 11) (h : rW Try.prog W0 σ.length r111 (initFr args) σ (finP W0 rs111 σ.length K)) : ACall Try.prog W0 111 args σ K :=
  ACall.introR mixed Try.func111 (by kernel_rfl) k111 (by kernel_rfl) hn h
def r112 : RC := (.seq (.reg [.op (some 2) (.mv (.v (.lit (.int .i64 (0)))))])
 (.seq (.reg [.op (some 3) (.mv (.v (.lit (.int .i64 (0)))))])
 (.seq (.seq (.draw [((some 4), (.mv (.t 0))), ((some 5), (.nilck (.t 4))), ((some 6), (.faddr 1 (.t 5))), ((some 7), (.load 1 false (.t 6))), ((some 8), (.mv (.t 0))), ((some 9), (.nilck (.t 8))), ((some 10), (.faddr 0 (.t 9))), ((some 11), (.load 1 false (.t 10))), ((some 12), (.lenL (.t 11))), ((some 13), (.binI .lss (.t 7) (.t 12)))] [])
 (.cond (.t 13)
 (.draw [((some 14), (.mv (.t 0))), ((some 15), (.nilck (.t 14))), ((some 16), (.faddr 0 (.t 15))), ((some 17), (.load 1 false (.t 16))), ((some 18), (.mv (.t 0))), ((some 19), (.nilck (.t 18))), ((some 20), (.faddr 1 (.t 19))), ((some 21), (.load 1 false (.t 20))), ((some 22), (.iaddrS 1 (.t 17) (.t 21))), ((some 23), (.load 1 false (.t 22))), ((some 24), (.conv .i64 (.t 23))), ((some 3), (.mv (.t 24)))] [])
 .skip))
 (.seq (.reg [.op (some 25) (.mv (.t 0)),
  .op (some 26) (.nilck (.t 25)),
  .op (some 27) (.faddr 1 (.t 26)),
  .op (some 28) (.load 1 false (.t 27)),
  .op (some 29) (.binI .add (.t 28) (.v (.lit (.int .i64 (1))))),
  .op (some 30) (.nilck (.t 25)),
  .op (some 31) (.faddr 1 (.t 30)),
  .op none (.store 1 (.t 31) (.t 29))])
 (.seq (.reg [.op (some 32) (.mv (.t 0)),
  .op (some 33) (.mv (.t 0)),
  .op (some 34) (.nilck (.t 33)),
  .op (some 35) (.faddr 2 (.t 34)),
  .op (some 36) (.load 1 false (.t 35)),
  .op (some 37) (.binI .mul (.t 36) (.v (.lit (.int .u64 (6364136223846793005))))),
  .op (some 38) (.mv (.t 3)),
  .op (some 39) (.conv .u64 (.t 38)),
  .op (some 40) (.binI .add (.t 37) (.t 39)),
  .op (some 41) (.binI .add (.t 40) (.v (.lit (.int .u64 (462197))))),
  .op (some 42) (.nilck (.t 32)),
  .op (some 43) (.faddr 2 (.t 42)),
  .op none (.store 1 (.t 43) (.t 41))])
 (.seq (.seq (.draw [((some 44), (.mv (.t 0))), ((some 45), (.nilck (.t 44))), ((some 46), (.faddr 1 (.t 45))), ((some 47), (.load 1 false (.t 46))), ((some 48), (.mv (.t 0))), ((some 49), (.nilck (.t 48))), ((some 50), (.faddr 0 (.t 49))), ((some 51), (.load 1 false (.t 50))), ((some 52), (.lenL (.t 51))), ((some 53), (.binI .leq (.t 47) (.t 52)))] [])
 (.cond (.t 53)
 (.seq (.reg [.op (some 54) (.mv (.t 3)),
  .op (some 2) (.mv (.t 54))])
 .ret)
 .skip))
 (.seq (.reg [.op (some 55) (.mv (.t 0)),
  .op (some 56) (.nilck (.t 55)),
  .op (some 57) (.faddr 2 (.t 56)),
  .op (some 58) (.load 1 false (.t 57)),
  .op (some 59) (.binI .shr (.t 58) (.v (.lit (.int .u64 (40))))),
  .op (some 60) (.binI .and (.t 59) (.v (.lit (.int .u64 (255))))),
  .op (some 61) (.conv .i64 (.t 60)),
  .op (some 2) (.mv (.t 61))])
 .ret)))))))
def rs112 : List RR := [.tmp 2]
def cut112 : Nat → Nat := fun id => if id = 2 then 21 else if id = 3 then 25 else if id = 6 then 21 else 0
theorem k112 : (Try.f112.body.bind fun c => comp Try.prog Try.f112.ntmps cut112 c) = some r112 := by kernel_rfl
theorem by112 {W0 : World} {σ : List Blk} {args : List AV} {K : Cont} (hn : args.length ≤ 62) (h : rW Try.prog W0 σ.length r112 (initFr args) σ (finP W0 rs112 σ.length K)) : ACall Try.prog W0 112 args σ K :=
  ACall.introR mixed Try.func112 (by kernel_rfl) k112 (by kernel_rfl) hn h
def r113 : RC := (.seq (.reg [.op (some 2) (.mv (.v (.lit (.int .i64 (0)))))])
 (.seq (.reg [.op (some 3) (.mv (.t 0)),
  .op (some 4) (.binI .rem (.t 3) (.v (.lit (.int .i64 (6))))),
  .op (some 5) (.binI .add (.t 4) (.v (.lit (.int .i64 (6))))),
  .op (some 6) (.binI .rem (.t 5) (.v (.lit (.int .i64 (6))))),
  .op (some 2) (.mv (.t 6))])
 .ret))
def rs113 : List RR := [.tmp 2]
def cut113 : Nat → Nat := fun id => 0
theorem k113 : (Try.f113.body.bind fun c => comp Try.prog Try.f113.ntmps cut113 c) = some r113 := by kernel_rfl
theorem by113 {W0 : World} {σ : List Blk} {args : List AV} {K : Cont} (hn : args.length ≤ 7) (h : rW Try.prog W0 σ.length r113 (initFr args) σ (finP W0 rs113 σ.length K)) : ACall Try.prog W0 113 args σ K :=
  ACall.introR mixed Try.func113 (by kernel_rfl) k113 (by kernel_rfl) hn h
def r114 : RC := (.seq (.reg [.op (some 4) (.mv (.v (.lit (.int .u64 (0)))))])
 (.seq (.reg [.op (some 5) (.mv (.v (.lit (.int .u64 (0)))))])
 (.seq (.seq (.reg [.op (some 9) (.mv (.v (.lit (.int .i64 (0)))))])
 (.block 0 (.loop (.seq (.reg [.op (some 10) (.binI .lss (.t 9) (.v (.lit (.int .i64 (36)))))])
 (.seq (.cond (.t 10)
 .skip
 (.exit 0))
 (.seq (.block 1 (.seq (.reg [.op (some 11) (.mv (.t 9)),
  .op (some 6) (.mv (.t 11))])
 (.seq (.reg [.op (some 12) (.mv (.t 0)),
  .op (some 13) (.mv (.t 6)),
  .op (some 14) (.call (.v (.lit (.func (.func 84) #[] #[]))) [(.t 12), (.t 13)])])
 (.cond (.t 14)
 (.seq (.reg [.op (some 16) (.mv (.t 1)),
  .op (some 17) (.mv (.t 6)),
  .op (some 18) (.binI .rem (.t 17) (.v (.lit (.int .i64 (6))))),
  .op (some 19) (.mv (.t 6)),
  .op (some 20) (.binI .quo (.t 19) (.v (.lit (.int .i64 (6))))),
  .op (some 21) (.call (.t 16) [(.t 18), (.t 20)]),
  .op (some 15) (.mv (.t 21)),
  .op (some 22) (.ext (.t 15) 0),
  .op (some 23) (.ext (.t 15) 1),
  .op (some 7) (.mv (.t 22)),
  .op (some 8) (.mv (.t 23))])
 (.reg [.op (some 24) (.mv (.t 5)),
  .op (some 25) (.mv (.t 8)),
  .op (some 26) (.binI .mul (.t 25) (.v (.lit (.int .i64 (6))))),
  .op (some 27) (.mv (.t 7)),
  .op (some 28) (.binI .add (.t 26) (.t 27)),
  .op (some 29) (.binI .shl (.v (.lit (.int .u64 (1)))) (.t 28)),
  .op (some 30) (.binI .or (.t 24) (.t 29)),
  .op (some 5) (.mv (.t 30))]))
 .skip))))
 (.reg [.op (some 31) (.binI .add (.t 9) (.v (.lit (.int .i64 (1))))),
  .op (some 9) (.mv (.t 31))])))))))
 (.seq (.reg [.op (some 32) (.mv (.t 5)),
  .op (some 4) (.mv (.t 32))])
 .ret))))
def rs114 : List RR := [.tmp 4]
def cut114 : Nat → Nat := fun id => 0
theorem k114 : (Try.f114.body.bind fun c => comp Try.prog Try.f114.ntmps cut114 c) = some r114 := by kernel_rfl
theorem by114 {W0 : World} {σ : List Blk} {args : List AV} {K : Cont} (hn : args.length ≤ 33) (h : rW Try.prog W0 σ.length r114 (initFr args) σ (finP W0 rs114 σ.length K)) : ACall Try.prog W0 114 args σ K :=
  ACall.introR mixed Try.func114 (by kernel_rfl) k114 (by kernel_rfl) hn h
def r115 : RC := (.seq (.reg [.op (some 6) (.mv (.v (.lit (.int .i64 (0))))),
  .op (some 7) (.mv (.v (.lit (.int .i64 (0)))))])
 (.seq (.draw [((some 8), (.mv (.t 0))), ((some 9), (.load 1 false (.t 2))), ((some 10), (.binI .add (.t 8) (.t 9))), ((some 11), (.binI .rem (.t 10) (.v (.lit (.int .i64 (6)))))), ((some 12), (.mv (.t 1))), ((some 13), (.load 1 false (.t 3))), ((some 14), (.binI .add (.t 12) (.t 13))), ((some 15), (.binI .rem (.t 14) (.v (.lit (.int .i64 (6)))))), ((some 6), (.mv (.t 11))), ((some 7), (.mv (.t 15)))] [])
 .ret))
def rs115 : List RR := [.tmp 6, .tmp 7]
def cut115 : Nat → Nat := fun id => if id = 1 then 21 else 0
theorem k115 : (Try.f115.body.bind fun c => comp Try.prog Try.f115.ntmps cut115 c) = some r115 := by kernel_rfl
theorem by115 {W0 : World} {σ : List Blk} {args : List AV} {K : Cont} (hn : args.length ≤ 16) (h : rW Try.prog W0 σ.length r115 (initFr args) σ (finP W0 rs115 σ.length K)) : ACall Try.prog W0 115 args σ K :=
  ACall.introR mixed Try.func115 (by kernel_rfl) k115 (by kernel_rfl) hn h
def r116 : RC := (.seq (.reg [.op (some 2) (.mv (.v (.lit (.int .i64 (0)))))])
 (.seq (.reg [.op (some 3) (.mv (.t 0)),
  .op (some 4) (.binI .rem (.t 3) (.v (.lit (.int .i64 (6))))),
  .op (some 5) (.binI .add (.t 4) (.v (.lit (.int .i64 (6))))),
  .op (some 6) (.binI .rem (.t 5) (.v (.lit (.int .i64 (6))))),
  .op (some 2) (.mv (.t 6))])
 .ret))
def rs116 : List RR := [.tmp 2]
def cut116 : Nat → Nat := fun id => 0
theorem k116 : (Try.f116.body.bind fun c => comp Try.prog Try.f116.ntmps cut116 c) = some r116 := by kernel_rfl
theorem by116 {W0 : World} {σ : List Blk} {args : List AV} {K : Cont} (hn : args.length ≤ 7) (h : rW Try.prog W0 σ.length r116 (initFr args) σ (finP W0 rs116 σ.length K)) : ACall Try.prog W0 116 args σ K :=
  ACall.introR mixed Try.func116 (by kernel_rfl) k116 (by kernel_rfl) hn h
def r117 : RC := (.seq (.reg [.op (some 2) (.mv (.v (.lit (.int .i64 (0)))))])
 (.seq (.reg [.op (some 3) (.mv (.t 0)),
  .op (some 4) (.binI .shr (.t 3) (.v (.lit (.int .u64 (1))))),
  .op (some 5) (.binI .and (.t 4) (.v (.lit (.int .u64 (6148914691236517205))))),
  .op (some 6) (.mv (.t 0)),
  .op (some 7) (.binI .and (.t 6) (.v (.lit (.int .u64 (6148914691236517205))))),
  .op (some 8) (.binI .add (.t 5) (.t 7)),
  .op (some 0) (.mv (.t 8))])
 (.seq (.reg [.op (some 9) (.mv (.t 0)),
  .op (some 10) (.binI .shr (.t 9) (.v (.lit (.int .u64 (2))))),
  .op (some 11) (.binI .and (.t 10) (.v (.lit (.int .u64 (3689348814741910323))))),
  .op (some 12) (.mv (.t 0)),
  .op (some 13) (.binI .and (.t 12) (.v (.lit (.int .u64 (3689348814741910323))))),
  .op (some 14) (.binI .add (.t 11) (.t 13)),
  .op (some 0) (.mv (.t 14))])
 (.seq (.reg [.op (some 15) (.mv (.t 0)),
  .op (some 16) (.binI .shr (.t 15) (.v (.lit (.int .u64 (4))))),
  .op (some 17) (.mv (.t 0)),
  .op (some 18) (.binI .add (.t 16) (.t 17)),
  .op (some 19) (.binI .and (.t 18) (.v (.lit (.int .u64 (1085102592571150095))))),
  .op (some 0) (.mv (.t 19))])
 (.seq (.reg [.op (some 20) (.mv (.t 0)),
  .op (some 21) (.mv (.t 0)),
  .op (some 22) (.binI .shr (.t 21) (.v (.lit (.int .u64 (8))))),
  .op (some 23) (.binI .add (.t 20) (.t 22)),
  .op (some 0) (.mv (.t 23))])
 (.seq (.reg [.op (some 24) (.mv (.t 0)),
  .op (some 25) (.mv (.t 0)),
  .op (some 26) (.binI .shr (.t 25) (.v (.lit (.int .u64 (16))))),
  .op (some 27) (.binI .add (.t 24) (.t 26)),
  .op (some 0) (.mv (.t 27))])
 (.seq (.reg [.op (some 28) (.mv (.t 0)),
  .op (some 29) (.mv (.t 0)),
  .op (some 30) (.binI .shr (.t 29) (.v (.lit (.int .u64 (32))))),
  .op (some 31) (.binI .add (.t 28) (.t 30)),
  .op (some 0) (.mv (.t 31))])
 (.seq (.reg [.op (some 32) (.mv (.t 0)),
  .op (some 33) (.conv .i64 (.t 32)),
  .op (some 34) (.binI .and (.t 33) (.v (.lit (.int .i64 (127))))),
  .op (some 2) (.mv (.t 34))])
 .ret))))))))
def rs117 : List RR := [.tmp 2]
def cut117 : Nat → Nat := fun id => 0
theorem k117 : (Try.f117.body.bind fun c => comp Try.prog Try.f117.ntmps cut117 c) = some r117 := by kernel_rfl
theorem by117 {W0 : World} {σ : List Blk} {args : List AV} {K : Cont} (hn : args.length ≤ 35) (h : rW Try.prog W0 σ.length r117 (initFr args) σ (finP W0 rs117 σ.length K)) : ACall Try.prog W0 117 args σ K :=
  ACall.introR mixed Try.func117 (by kernel_rfl) k117 (by kernel_rfl) hn h
end Go.Proofs.Ytkcbhdjhbnnlgaa
end

section
/- Contracts of small functions: what they compute. -/
set_option linter.unusedVariables false
set_option linter.unusedSimpArgs false
namespace Go.Proofs.Ytkcbhdjhbnnlgaa
open Go Go.RowKit Go.Proofs.Ytkcbhdjhbnnlgaa.Abs
theorem fL_mk {l : List AV} {K : List AV → Prop} (h : K l) : fL l K := by rw [fL_eq]; exact h
def litAll : List AV → Bool
  | [] => true
  | .lit _ :: l => litAll l
  | _ :: _ => false
theorem det3_agg {σ : List Blk} : ∀ {cs : List AV}, litAll cs = true → det3 σ (.agg cs) := by
  intro cs h v hv
  induction cs with
  | nil => cases hv
  | cons a cs ih =>
    cases a with
    | lit x => cases hv with
      | head => exact trivial
      | tail _ hv => exact ih h hv
    | _ => cases h
abbrev I (n : Int) : AV := .lit (.int .i64 n)
abbrev Bo (b : Bool) : AV := .lit (.bool b)
abbrev St (s : ByteArray) : AV := .lit (.string s)
variable {W0 : World} {σ : List Blk}
def inB (x a b : Int) : Bool := decide (a ≤ x) && decide (x ≤ b)
theorem c_l1In (x a b : Int) (K : Cont) (h0 : K (Bo (inB x a b)) []) : ACall Try.prog W0 109 [I x, I a, I b] [] K := by
  refine by109 (Nat.le_of_ble_eq_true rfl) ?_
  repeat' ((conv => whnf); first
    | (refine And.intro rfl ?_)
    | (refine And.intro (by decide +kernel) ?_)
    | (refine And.intro trivial ?_)
    | (refine Exists.intro _ (And.intro rfl (And.intro rfl (And.intro (Nat.le_of_ble_eq_true rfl) ?_))))
    | (refine Exists.intro _ (And.intro rfl (And.intro rfl (And.intro rfl (And.intro (Nat.le_of_ble_eq_true rfl) ?_)))))
    | (refine And.intro (Exists.intro _ (And.intro rfl rfl)) ?_)
    | (exact fun hW => absurd hW (by decide +kernel))
    | (intro hW; (try simp only [Bool.not_true, Bool.not_false, Bool.not_eq_true', Bool.not_eq_false', decide_eq_true_eq, decide_eq_false_iff_not, reduceCtorEq, Bool.true_eq_false, Bool.false_eq_true, mk_size, List.size_toArray, ByteArray.size_append, ByteArray.size_extract, List.length_cons, List.length_nil, ba_get, ba_empty, Int.toNat_natCast] at hW))
    | (refine And.intro (?_ : _ → _) (?_ : _ → _))
    | (refine FinR.drop 0 (Nat.zero_le _) (Closed.zero _) rfl ?_)
    | (refine FinR.keep ?_)
    | (refine And.intro (det3_agg rfl) ?_)
    | (refine fL_mk ?_)
    | (refine And.intro (by (try simp only [mk_size, List.size_toArray, ByteArray.size_append, ByteArray.size_extract, List.length_cons, List.length_nil]); omega) ?_)
    | (refine And.intro (by (try simp only [mk_size, List.size_toArray, ByteArray.size_append, ByteArray.size_extract, List.length_cons, List.length_nil, wrap64_eq]); omega) ?_)
    | fail)
  all_goals first | exact h0 | (refine Eq.mp (congrArg (fun v => K v []) ?_) h0; clear h0; simp_all [inB] <;> omega)
theorem d_l1In (x a b : Int) (K : Cont) (h0 : K (Bo (inB x a b)) σ) : ACall Try.prog W0 109 [I x, I a, I b] σ K :=
  ACall.lift rfl (fun _ => rfl) (fun W1 K _ h => c_l1In x a b K h) h0
abbrev Sh (a b c d e f : Int) : AV := .agg [I a, I b, I c, I d, I e, I f]
def shB6 (a b c d e f : Int) : Bool := inB a 0 63 && inB b 0 63 && inB c 0 63 && inB d 0 63 && inB e 0 63 && inB f 0 63
theorem c_l2Sheet (a b c d e f : Int) (K : Cont) (h0 : K (Bo (shB6 a b c d e f)) []) : ACall Try.prog W0 77 [Sh a b c d e f] [] K := by
  refine by77 (Nat.le_of_ble_eq_true rfl) ?_
  repeat' ((conv => whnf); first
    | (refine And.intro rfl ?_)
    | (refine And.intro (by decide +kernel) ?_)
    | (refine And.intro trivial ?_)
    | (refine LoopR.unroll 7 ?_)
    | (refine d_l1In (h0 := ?_) ..)
    | (refine Exists.intro _ (And.intro (fun τ => callW_fn (d_l1In (h0 := And.intro rfl rfl) ..)) ?_))
    | (refine Exists.intro _ (And.intro (callW_fn (d_l1In (h0 := And.intro rfl rfl) ..)) (And.intro trivial ?_)))
    | (refine Exists.intro _ (And.intro (callW_fn (d_l1In (h0 := And.intro rfl rfl) ..)) ?_))
    | (refine Exists.intro _ (And.intro (fun τ _ => callW_fn (d_l1In (h0 := And.intro rfl rfl) ..)) ?_))
    | (refine Exists.intro _ (And.intro rfl (And.intro rfl (And.intro (Nat.le_of_ble_eq_true rfl) ?_))))
    | (refine Exists.intro _ (And.intro rfl (And.intro rfl (And.intro rfl (And.intro (Nat.le_of_ble_eq_true rfl) ?_)))))
    | (refine And.intro (Exists.intro _ (And.intro rfl rfl)) ?_)
    | (exact fun hW => absurd hW (by decide +kernel))
    | (intro hW; (try simp only [Bool.not_true, Bool.not_false, Bool.not_eq_true', Bool.not_eq_false', decide_eq_true_eq, decide_eq_false_iff_not, reduceCtorEq, Bool.true_eq_false, Bool.false_eq_true, mk_size, List.size_toArray, ByteArray.size_append, ByteArray.size_extract, List.length_cons, List.length_nil, ba_get, ba_empty, Int.toNat_natCast] at hW))
    | (refine And.intro (?_ : _ → _) (?_ : _ → _))
    | (refine FinR.drop 0 (Nat.zero_le _) (Closed.zero _) rfl ?_)
    | (refine FinR.keep ?_)
    | (refine And.intro (det3_agg rfl) ?_)
    | (refine fL_mk ?_)
    | (refine And.intro (by (try simp only [mk_size, List.size_toArray, ByteArray.size_append, ByteArray.size_extract, List.length_cons, List.length_nil]); omega) ?_)
    | (refine And.intro (by (try simp only [mk_size, List.size_toArray, ByteArray.size_append, ByteArray.size_extract, List.length_cons, List.length_nil, wrap64_eq]); omega) ?_)
    | fail)
  all_goals first | exact h0 | (refine Eq.mp (congrArg (fun v => K v []) ?_) h0; clear h0; simp_all [shB6] <;> omega)
theorem d_l2Sheet (a b c d e f : Int) (K : Cont) (h0 : K (Bo (shB6 a b c d e f)) σ) : ACall Try.prog W0 77 [Sh a b c d e f] σ K :=
  ACall.lift rfl (fun _ => rfl) (fun W1 K _ h => c_l2Sheet a b c d e f K h) h0
end Go.Proofs.Ytkcbhdjhbnnlgaa
end

section
/- Contracts: sheets and shops. -/
set_option linter.unusedVariables false
set_option linter.unusedSimpArgs false
namespace Go.Proofs.Ytkcbhdjhbnnlgaa
open Go Go.RowKit Go.Proofs.Ytkcbhdjhbnnlgaa.Abs
variable {W0 : World} {σ : List Blk}
abbrev U (n : Int) : AV := .lit (.int .u64 n)
def setI (a b c d e f : Int) : Int :=
  bOr .u64 (bOr .u64 (bOr .u64 (bOr .u64 (bOr .u64 (bOr .u64 0 (shL .u64 (IntKind.u64.wrap a) 0)) (shL .u64 (IntKind.u64.wrap b) 6)) (shL .u64 (IntKind.u64.wrap c) 12)) (shL .u64 (IntKind.u64.wrap d) 18)) (shL .u64 (IntKind.u64.wrap e) 24)) (shL .u64 (IntKind.u64.wrap f) 30)
def setR (a b c d e f : Int) : AV := .tup [U (if shB6 a b c d e f = true then setI a b c d e f else 0), Bo (shB6 a b c d e f)]
theorem c_setOf (a b c d e f : Int) (K : Cont) (h0 : K (setR a b c d e f) []) : ACall Try.prog W0 74 [Sh a b c d e f] [] K := by
  refine by74 (Nat.le_of_ble_eq_true rfl) ?_
  repeat' ((conv => whnf); first
    | (refine And.intro rfl ?_)
    | (refine And.intro (by decide +kernel) ?_)
    | (refine And.intro trivial ?_)
    | (refine LoopR.unroll 7 ?_)
    | (refine Exists.intro _ (And.intro rfl (And.intro rfl (And.intro (Nat.le_of_ble_eq_true rfl) ?_))))
    | (refine Exists.intro _ (And.intro rfl (And.intro rfl (And.intro rfl (And.intro (Nat.le_of_ble_eq_true rfl) ?_)))))
    | (refine And.intro (Exists.intro _ (And.intro rfl rfl)) ?_)
    | (exact fun hW => absurd hW (by decide +kernel))
    | (intro hW; (try simp only [Bool.not_true, Bool.not_false, Bool.not_eq_true', Bool.not_eq_false', decide_eq_true_eq, decide_eq_false_iff_not, reduceCtorEq, Bool.true_eq_false, Bool.false_eq_true, mk_size, List.size_toArray, ByteArray.size_append, ByteArray.size_extract, List.length_cons, List.length_nil, ba_get, ba_empty, Int.toNat_natCast] at hW))
    | (refine And.intro (?_ : _ → _) (?_ : _ → _))
    | (refine FinR.drop 0 (Nat.zero_le _) (Closed.zero _) rfl ?_)
    | (refine FinR.keep ?_)
    | (refine And.intro (det3_agg rfl) ?_)
    | (refine fL_mk ?_)
    | (refine And.intro (by (try simp only [mk_size, List.size_toArray, ByteArray.size_append, ByteArray.size_extract, List.length_cons, List.length_nil]); omega) ?_)
    | (refine And.intro (by (try simp only [mk_size, List.size_toArray, ByteArray.size_append, ByteArray.size_extract, List.length_cons, List.length_nil, wrap64_eq]); omega) ?_)
    | fail)
  all_goals first
    | (have hs : shB6 a b c d e f = false := by (simp_all [shB6, inB] <;> omega)
       rw [setR, hs] at h0
       exact h0)
    | (have hs : shB6 a b c d e f = true := by (simp_all [shB6, inB] <;> omega)
       rw [setR, hs, if_pos rfl] at h0
       exact h0)
theorem d_setOf (a b c d e f : Int) (K : Cont) (h0 : K (setR a b c d e f) σ) : ACall Try.prog W0 74 [Sh a b c d e f] σ K :=
  ACall.lift rfl (fun _ => rfl) (fun W1 K _ h => c_setOf a b c d e f K h) h0
theorem c_IsSheet (a b c d e f : Int) (K : Cont) (h0 : K (Bo (shB6 a b c d e f)) []) : ACall Try.prog W0 17 [Sh a b c d e f] [] K := by
  refine by17 (Nat.le_of_ble_eq_true rfl) ?_
  repeat' ((conv => whnf); first
    | (refine And.intro rfl ?_)
    | (refine And.intro (by decide +kernel) ?_)
    | (refine And.intro trivial ?_)
    | (refine d_setOf (h0 := ?_) ..)
    | (refine Exists.intro _ (And.intro (fun τ => callW_fn (d_setOf (h0 := And.intro rfl rfl) ..)) ?_))
    | (refine Exists.intro _ (And.intro (callW_fn (d_setOf (h0 := And.intro rfl rfl) ..)) (And.intro trivial ?_)))
    | (refine Exists.intro _ (And.intro (callW_fn (d_setOf (h0 := And.intro rfl rfl) ..)) ?_))
    | (refine Exists.intro _ (And.intro (fun τ _ => callW_fn (d_setOf (h0 := And.intro rfl rfl) ..)) ?_))
    | (refine Exists.intro _ (And.intro rfl (And.intro rfl (And.intro (Nat.le_of_ble_eq_true rfl) ?_))))
    | (refine Exists.intro _ (And.intro rfl (And.intro rfl (And.intro rfl (And.intro (Nat.le_of_ble_eq_true rfl) ?_)))))
    | (refine And.intro (Exists.intro _ (And.intro rfl rfl)) ?_)
    | (exact fun hW => absurd hW (by decide +kernel))
    | (intro hW; (try simp only [Bool.not_true, Bool.not_false, Bool.not_eq_true', Bool.not_eq_false', decide_eq_true_eq, decide_eq_false_iff_not, reduceCtorEq, Bool.true_eq_false, Bool.false_eq_true, mk_size, List.size_toArray, ByteArray.size_append, ByteArray.size_extract, List.length_cons, List.length_nil, ba_get, ba_empty, Int.toNat_natCast] at hW))
    | (refine And.intro (?_ : _ → _) (?_ : _ → _))
    | (refine FinR.drop 0 (Nat.zero_le _) (Closed.zero _) rfl ?_)
    | (refine FinR.keep ?_)
    | (refine And.intro (det3_agg rfl) ?_)
    | (refine fL_mk ?_)
    | (refine And.intro (by (try simp only [mk_size, List.size_toArray, ByteArray.size_append, ByteArray.size_extract, List.length_cons, List.length_nil]); omega) ?_)
    | (refine And.intro (by (try simp only [mk_size, List.size_toArray, ByteArray.size_append, ByteArray.size_extract, List.length_cons, List.length_nil, wrap64_eq]); omega) ?_)
    | fail)
  all_goals first | exact h0 | (refine Eq.mp (congrArg (fun v => K v []) ?_) h0; clear h0; simp_all <;> omega)
theorem d_IsSheet (a b c d e f : Int) (K : Cont) (h0 : K (Bo (shB6 a b c d e f)) σ) : ACall Try.prog W0 17 [Sh a b c d e f] σ K :=
  ACall.lift rfl (fun _ => rfl) (fun W1 K _ h => c_IsSheet a b c d e f K h) h0
abbrev Sp (a b c d e f a' b' c' d' e' f' p q : Int) : AV := .agg [I a, I b, I c, I d, I e, I f, I a', I b', I c', I d', I e', I f', I p, I q]
end Go.Proofs.Ytkcbhdjhbnnlgaa
end

section
/- Contracts: the laws of new shops and of new consoles. -/
set_option linter.unusedVariables false
set_option linter.unusedSimpArgs false
namespace Go.Proofs.Ytkcbhdjhbnnlgaa
open Go Go.RowKit Go.Proofs.Ytkcbhdjhbnnlgaa.Abs
variable {W0 : World} {σ : List Blk}
abbrev Co (a b c d e f a' b' c' d' e' f' p q : Int) (s t : ByteArray) (n : Int) : AV := .agg [I a, I b, I c, I d, I e, I f, I a', I b', I c', I d', I e', I f', I p, I q, St s, St t, I n]
end Go.Proofs.Ytkcbhdjhbnnlgaa
end

section
/- Plain laws: digits of numbers, and that the parallel count of bits counts them. -/
set_option linter.unusedVariables false
set_option linter.unusedSimpArgs false
namespace Go.Proofs.Ytkcbhdjhbnnlgaa
open Go Go.Proofs.Ytkcbhdjhbnnlgaa.Abs
/-- the number of ones among the lowest n digits to base two -/
def ones : Nat → Nat → Nat
  | 0, _ => 0
  | n + 1, x => x % 2 + ones n (x / 2)
theorem testBit_dig (k d x i : Nat) (hd : d < 2 ^ k) : (d + 2 ^ k * x).testBit i = if i < k then d.testBit i else x.testBit (i - k) := by
  rw [Nat.add_comm, Nat.testBit_two_pow_mul_add x hd i]
theorem land_dig (k d e x y : Nat) (hd : d < 2 ^ k) (he : e < 2 ^ k) : (d + 2 ^ k * x) &&& (e + 2 ^ k * y) = (d &&& e) + 2 ^ k * (x &&& y) := by
  apply Nat.eq_of_testBit_eq
  intro i
  rw [Nat.testBit_and, testBit_dig k d x i hd, testBit_dig k e y i he, testBit_dig k (d &&& e) _ i (Nat.and_lt_two_pow d he)]
  split <;> simp [Nat.testBit_and]
theorem lor_dig (k d e x y : Nat) (hd : d < 2 ^ k) (he : e < 2 ^ k) : (d + 2 ^ k * x) ||| (e + 2 ^ k * y) = (d ||| e) + 2 ^ k * (x ||| y) := by
  apply Nat.eq_of_testBit_eq
  intro i
  rw [Nat.testBit_or, testBit_dig k d x i hd, testBit_dig k e y i he, testBit_dig k (d ||| e) _ i (Nat.or_lt_two_pow hd he)]
  split <;> simp [Nat.testBit_or]
/-- a shift to the right under a mask that lets no bit of the next digit in -/
theorem shr_land_dig (k s d m x y : Nat) (hs : s ≤ k) (hd : d < 2 ^ k) (hm : m < 2 ^ (k - s)) : ((d + 2 ^ k * x) >>> s) &&& (m + 2 ^ k * y) = ((d >>> s) &&& m) + 2 ^ k * ((x >>> s) &&& y) := by
  have hm' : m < 2 ^ k := Nat.lt_of_lt_of_le hm (Nat.pow_le_pow_right (by omega) (by omega))
  have hdm : (d >>> s) &&& m < 2 ^ k := Nat.and_lt_two_pow _ hm'
  apply Nat.eq_of_testBit_eq
  intro i
  rw [Nat.testBit_and, Nat.testBit_shiftRight, testBit_dig k d x _ hd, testBit_dig k m y i hm', testBit_dig k _ _ i hdm]
  by_cases hi : i < k
  · simp only [hi, if_true, Nat.testBit_and, Nat.testBit_shiftRight]
    by_cases h2 : s + i < k
    · simp [h2]
    · have : m.testBit i = false := Nat.testBit_lt_two_pow (Nat.lt_of_lt_of_le hm (Nat.pow_le_pow_right (by omega) (by omega)))
      simp [this]
  · have h2 : ¬ s + i < k := by omega
    simp only [hi, h2, if_false, Nat.testBit_and, Nat.testBit_shiftRight]
    rw [show s + i - k = s + (i - k) by omega]
/-! ### the parallel count, byte by byte -/
def mk (m : Nat) : Nat → Nat
  | 0 => 0
  | n + 1 => m + 256 * mk m n
def s1 (n x : Nat) : Nat := ((x >>> 1) &&& mk 85 n) + (x &&& mk 85 n)
def s2 (n x : Nat) : Nat := ((x >>> 2) &&& mk 51 n) + (x &&& mk 51 n)
def s3 (n x : Nat) : Nat := ((x >>> 4) + x) &&& mk 15 n
def b1 (d : Nat) : Nat := ((d >>> 1) &&& 85) + (d &&& 85)
def b2 (d : Nat) : Nat := ((d >>> 2) &&& 51) + (d &&& 51)
def b3 (d : Nat) : Nat := ((d >>> 4) + d) &&& 15
theorem s1_dig (n d x : Nat) (hd : d < 256) : s1 (n + 1) (d + 256 * x) = b1 d + 256 * s1 n x := by
  have h1 := shr_land_dig 8 1 d 85 x (mk 85 n) (by omega) hd (by decide)
  have h2 := land_dig 8 d 85 x (mk 85 n) hd (by decide)
  simp only [s1, b1, mk, Nat.reducePow] at *
  rw [h1, h2]; omega
theorem s2_dig (n d x : Nat) (hd : d < 256) : s2 (n + 1) (d + 256 * x) = b2 d + 256 * s2 n x := by
  have h1 := shr_land_dig 8 2 d 51 x (mk 51 n) (by omega) hd (by decide)
  have h2 := land_dig 8 d 51 x (mk 51 n) hd (by decide)
  simp only [s2, b2, mk, Nat.reducePow] at *
  rw [h1, h2]; omega
theorem land15 (x : Nat) : x &&& 15 = x % 16 := Nat.and_two_pow_sub_one_eq_mod x 4
theorem s3_dig (n d x : Nat) (hd : d / 16 + d + 16 * (x % 16) < 256) : s3 (n + 1) (d + 256 * x) = b3 d + 256 * s3 n x := by
  have e : (d + 256 * x) >>> 4 + (d + 256 * x) = (d / 16 + d + 16 * (x % 16)) + 256 * ((x >>> 4) + x) := by
    simp only [Nat.shiftRight_eq_div_pow, Nat.reducePow]; omega
  have h2 := land_dig 8 (d / 16 + d + 16 * (x % 16)) 15 ((x >>> 4) + x) (mk 15 n) hd (by decide)
  simp only [s3, b3, mk, Nat.reducePow] at *
  rw [e, h2, land15, land15]
  simp only [Nat.shiftRight_eq_div_pow, Nat.reducePow]; omega
theorem byte_ones : ∀ d, d < 256 → b3 (b2 (b1 d)) = ones 8 d ∧ b1 d < 256 ∧ b2 (b1 d) < 256 ∧ b2 (b1 d) / 16 ≤ 4 ∧ b2 (b1 d) % 16 ≤ 4 := by decide +kernel
theorem s2_0 (x : Nat) : s2 0 x = 0 := by simp [s2, mk]
theorem s3_0 (x : Nat) : s3 0 x = 0 := by simp [s3, mk]
theorem ones8 (d x : Nat) (hd : d < 256) : ones 8 (d + 256 * x) = ones 8 d := by
  simp only [ones]; omega
theorem ones_le : ∀ n x, ones n x ≤ n
  | 0, _ => Nat.le_refl _
  | n + 1, x => by have := ones_le n (x / 2); simp only [ones]; omega
theorem ones_add : ∀ (n m x : Nat), ones (n + m) x = ones n x + ones m (x / 2 ^ n)
  | 0, m, x => by simp [ones]
  | n + 1, m, x => by
    rw [show n + 1 + m = (n + m) + 1 by omega]
    simp only [ones]
    rw [ones_add n m, Nat.div_div_eq_div_mul, Nat.pow_succ, Nat.mul_comm 2]
    omega
/-- the bytes of the parallel count are the counts of the bytes -/
def cnt : Nat → Nat → Nat
  | 0, _ => 0
  | n + 1, x => ones 8 (x % 256) + 256 * cnt n (x / 256)
theorem s2_s1_low (n x : Nat) : s2 n (s1 n x) % 16 ≤ 4 := by
  cases n with
  | zero => rw [s2_0]; decide
  | succ n =>
    have hd : x % 256 < 256 := Nat.mod_lt _ (by omega)
    rw [show x = x % 256 + 256 * (x / 256) by omega, s1_dig _ _ _ hd, s2_dig _ _ _ (byte_ones _ hd).2.1]
    have := (byte_ones _ hd).2.2.2.2
    omega
theorem s3_s2_s1 : ∀ (n x : Nat), s3 n (s2 n (s1 n x)) = cnt n x
  | 0, x => s3_0 _
  | n + 1, x => by
    have hd : x % 256 < 256 := Nat.mod_lt _ (by omega)
    obtain ⟨h1, h2, h3, h4, h5⟩ := byte_ones _ hd
    have hl := s2_s1_low n (x / 256)
    conv => lhs; rw [show x = x % 256 + 256 * (x / 256) by omega]
    rw [s1_dig _ _ _ hd, s2_dig _ _ _ h2, s3_dig _ _ _ (by omega), h1, s3_s2_s1 n]
    rfl
theorem ones_cnt (x : Nat) : ones 64 x = ones 8 (x % 256) + ones 8 (x / 256 % 256) + ones 8 (x / 256 / 256 % 256) + ones 8 (x / 256 / 256 / 256 % 256) + ones 8 (x / 256 / 256 / 256 / 256 % 256) + ones 8 (x / 256 / 256 / 256 / 256 / 256 % 256) + ones 8 (x / 256 / 256 / 256 / 256 / 256 / 256 % 256) + ones 8 (x / 256 / 256 / 256 / 256 / 256 / 256 / 256 % 256) := by
  have step : ∀ m y, ones (8 + m) y = ones 8 (y % 256) + ones m (y / 256) := fun m y => by
    rw [ones_add 8 m y]
    congr 1
    conv => lhs; rw [show y = y % 256 + 256 * (y / 256) by omega]
    exact ones8 _ _ (Nat.mod_lt _ (by omega))
  have h0 : ones 64 x = ones (8 + (8 + (8 + (8 + (8 + (8 + (8 + (8 + 0)))))))) x := rfl
  have hz : ∀ y, ones 0 y = 0 := fun _ => rfl
  rw [h0, step, step, step, step, step, step, step, step, hz]
  simp only [Nat.add_zero, Nat.add_assoc]
/-- the last steps add the bytes up -/
theorem div_dig (k d r : Nat) (hd : d < k) : (d + k * r) / k = r := by
  rw [Nat.add_mul_div_left _ _ (by omega), Nat.div_eq_of_lt hd, Nat.zero_add]
theorem fin_lin (y2 y3 D p q r t v u : Nat) (e3 : y3 = y2 + D) (k1 : y2 = (p + 256 * q + 65536 * r + 16777216 * t) + 4294967296 * (v + 256 * u)) (k2 : D = v + 256 * u) : y3 = (p + v) + 128 * (2 * q + 512 * r + 131072 * t + 33554432 * (v + 256 * u) + 2 * u) := by omega
theorem fin_bytes (y2 y3 p q r t v u : Nat) (e3 : y3 = y2 + y2 / 4294967296) (k1 : y2 = (p + 256 * q + 65536 * r + 16777216 * t) + 4294967296 * (v + 256 * u)) (k2 : y2 / 4294967296 = v + 256 * u) (k3 : p + v < 128) : y3 % 128 = p + v := by
  rw [fin_lin y2 y3 _ p q r t v u e3 k1 k2, Nat.add_mul_mod_self_left]
  exact Nat.mod_eq_of_lt k3
theorem sum_bytes (c0 c1 c2 c3 c4 c5 c6 c7 : Nat) (h0 : c0 ≤ 8) (h1 : c1 ≤ 8) (h2 : c2 ≤ 8) (h3 : c3 ≤ 8) (h4 : c4 ≤ 8) (h5 : c5 ≤ 8) (h6 : c6 ≤ 8) (h7 : c7 ≤ 8) (y y1 y2 y3 : Nat)
    (hy : y = c0 + 256 * (c1 + 256 * (c2 + 256 * (c3 + 256 * (c4 + 256 * (c5 + 256 * (c6 + 256 * c7))))))) (e1 : y1 = y + y / 256) (e2 : y2 = y1 + y1 / 65536) (e3 : y3 = y2 + y2 / 4294967296) :
    y3 % 128 = (c0 + c1 + c2 + c3) + (c4 + c5 + c6 + c7) := by
  have g1 : y / 256 = c1 + 256 * (c2 + 256 * (c3 + 256 * (c4 + 256 * (c5 + 256 * (c6 + 256 * c7))))) := by rw [hy]; exact div_dig 256 c0 _ (by omega)
  have f1 : y1 = ((c0 + c1) + 256 * (c1 + c2)) + 65536 * ((c2 + c3) + 256 * ((c3 + c4) + 256 * ((c4 + c5) + 256 * ((c5 + c6) + 256 * ((c6 + c7) + 256 * c7))))) := by rw [e1, g1, hy]; omega
  have g2 : y1 / 65536 = (c2 + c3) + 256 * ((c3 + c4) + 256 * ((c4 + c5) + 256 * ((c5 + c6) + 256 * ((c6 + c7) + 256 * c7)))) := by rw [f1]; exact div_dig 65536 _ _ (by omega)
  have f2 : y2 = ((c0 + c1 + c2 + c3) + 256 * (c1 + c2 + c3 + c4) + 65536 * (c2 + c3 + c4 + c5) + 16777216 * (c3 + c4 + c5 + c6)) + 4294967296 * ((c4 + c5 + c6 + c7) + 256 * ((c5 + c6 + c7) + 256 * ((c6 + c7) + 256 * c7))) := by rw [e2, g2, f1]; omega
  have g3 : y2 / 4294967296 = (c4 + c5 + c6 + c7) + 256 * ((c5 + c6 + c7) + 256 * ((c6 + c7) + 256 * c7)) := by rw [f2]; exact div_dig 4294967296 _ _ (by omega)
  exact fin_bytes y2 y3 (c0 + c1 + c2 + c3) (c1 + c2 + c3 + c4) (c2 + c3 + c4 + c5) (c3 + c4 + c5 + c6) (c4 + c5 + c6 + c7) ((c5 + c6 + c7) + 256 * ((c6 + c7) + 256 * c7)) e3 f2 g3 (by clear hy e1 e2 e3 g1 f1 g2 f2 g3; omega)
end Go.Proofs.Ytkcbhdjhbnnlgaa
end

section
/- Plain laws: operations on the machine's unsigned words, as numbers. -/
set_option linter.unusedVariables false
set_option linter.unusedSimpArgs false
namespace Go.Proofs.Ytkcbhdjhbnnlgaa
open Go Go.Proofs.Ytkcbhdjhbnnlgaa.Abs
theorem wrap_u64 (n : Nat) (h : n < 18446744073709551616) : IntKind.u64.wrap (n : Int) = (n : Int) := by
  simp [IntKind.wrap, IntKind.signed, IntKind.bits]
  omega
theorem wrap_i64 (n : Int) (h0 : -9223372036854775808 ≤ n) (h1 : n ≤ 9223372036854775807) : IntKind.i64.wrap n = n := by
  simp [IntKind.wrap, IntKind.signed, IntKind.bits]
  omega
theorem bAnd_u64 (n m : Nat) (hn : n < 18446744073709551616) (hm : m < 18446744073709551616) : bAnd .u64 n m = ((n &&& m : Nat) : Int) := by
  have h : n &&& m < 18446744073709551616 := Nat.lt_of_le_of_lt Nat.and_le_left hn
  have e : (BitVec.ofInt 64 (n : Int) &&& BitVec.ofInt 64 (m : Int)).toNat = n &&& m := by
    rw [BitVec.toNat_and, BitVec.ofInt_natCast, BitVec.ofInt_natCast, BitVec.toNat_ofNat, BitVec.toNat_ofNat, Nat.mod_eq_of_lt hn, Nat.mod_eq_of_lt hm]
  unfold bAnd
  rw [show IntKind.u64.bits = 64 from rfl, e]
  exact wrap_u64 _ h
theorem bOr_u64 (n m : Nat) (hn : n < 18446744073709551616) (hm : m < 18446744073709551616) : bOr .u64 n m = ((n ||| m : Nat) : Int) := by
  have h : n ||| m < 18446744073709551616 := Nat.or_lt_two_pow (n := 64) hn hm
  have e : (BitVec.ofInt 64 (n : Int) ||| BitVec.ofInt 64 (m : Int)).toNat = n ||| m := by
    rw [BitVec.toNat_or, BitVec.ofInt_natCast, BitVec.ofInt_natCast, BitVec.toNat_ofNat, BitVec.toNat_ofNat, Nat.mod_eq_of_lt hn, Nat.mod_eq_of_lt hm]
  unfold bOr
  rw [show IntKind.u64.bits = 64 from rfl, e]
  exact wrap_u64 _ h
theorem bXor_u64 (n m : Nat) (hn : n < 18446744073709551616) (hm : m < 18446744073709551616) : bXor .u64 n m = ((n ^^^ m : Nat) : Int) := by
  have h : n ^^^ m < 18446744073709551616 := Nat.xor_lt_two_pow (n := 64) hn hm
  have e : (BitVec.ofInt 64 (n : Int) ^^^ BitVec.ofInt 64 (m : Int)).toNat = n ^^^ m := by
    rw [BitVec.toNat_xor, BitVec.ofInt_natCast, BitVec.ofInt_natCast, BitVec.toNat_ofNat, BitVec.toNat_ofNat, Nat.mod_eq_of_lt hn, Nat.mod_eq_of_lt hm]
  unfold bXor
  rw [show IntKind.u64.bits = 64 from rfl, e]
  exact wrap_u64 _ h
theorem shR_u64 (n s : Nat) (hs : s ≤ 64) : shR .u64 n s = ((n >>> s : Nat) : Int) := by
  unfold shR
  rw [show IntKind.u64.bits = 64 from rfl, Int.toNat_natCast, Nat.min_eq_left hs, Nat.shiftRight_eq_div_pow, Int.fdiv_eq_ediv_of_nonneg _ (Int.le_of_lt (Int.pow_pos (by decide)))]
  simp
theorem shL_u64 (n s : Nat) (hs : s ≤ 64) (h : n * 2 ^ s < 18446744073709551616) : shL .u64 n s = ((n * 2 ^ s : Nat) : Int) := by
  unfold shL
  rw [show IntKind.u64.bits = 64 from rfl, Int.toNat_natCast, Nat.min_eq_left hs]
  have := wrap_u64 (n * 2 ^ s) h
  simpa using this
end Go.Proofs.Ytkcbhdjhbnnlgaa
end

section
/- Plain law: what the library's count of ones computes is the number of ones. -/
set_option linter.unusedVariables false
set_option linter.unusedSimpArgs false
namespace Go.Proofs.Ytkcbhdjhbnnlgaa
open Go Go.Proofs.Ytkcbhdjhbnnlgaa.Abs
def p1 (x : Int) : Int := IntKind.u64.wrap (bAnd .u64 (shR .u64 x 1) 6148914691236517205 + bAnd .u64 x 6148914691236517205)
def p2 (x : Int) : Int := IntKind.u64.wrap (bAnd .u64 (shR .u64 x 2) 3689348814741910323 + bAnd .u64 x 3689348814741910323)
def p3 (x : Int) : Int := bAnd .u64 (IntKind.u64.wrap (shR .u64 x 4 + x)) 1085102592571150095
def p4 (k : Int) (x : Int) : Int := IntKind.u64.wrap (x + shR .u64 x k)
def pcI (x : Int) : Int := bAnd .i64 (IntKind.i64.wrap (p4 32 (p4 16 (p4 8 (p3 (p2 (p1 x))))))) 127
theorem cnt_lt : ∀ n x, cnt n x ≤ mk 8 n
  | 0, _ => Nat.le_refl _
  | n + 1, x => by
    have := cnt_lt n (x / 256)
    have := ones_le 8 (x % 256)
    simp only [cnt, mk]; omega
theorem p1_nat (x : Nat) (hx : x < 18446744073709551616) : p1 x = (s1 8 x : Nat) := by
  have hm : mk 85 8 = 6148914691236517205 := by decide
  have a1 := shR_u64 x 1 (by omega)
  have h1 : x >>> 1 < 18446744073709551616 := Nat.lt_of_le_of_lt (Nat.shiftRight_le _ _) hx
  have l1 : (x >>> 1) &&& mk 85 8 ≤ 6148914691236517205 := by rw [hm]; exact Nat.and_le_right
  have l2 : x &&& mk 85 8 ≤ 6148914691236517205 := by rw [hm]; exact Nat.and_le_right
  unfold p1 s1
  rw [show (1 : Int) = ((1 : Nat) : Int) from rfl, a1, show (6148914691236517205 : Int) = ((mk 85 8 : Nat) : Int) by rw [hm]; rfl, bAnd_u64 _ _ h1 (by rw [hm]; decide), bAnd_u64 _ _ hx (by rw [hm]; decide)]
  rw [← Int.natCast_add]
  exact wrap_u64 _ (by omega)
theorem p2_nat (x : Nat) (hx : x < 18446744073709551616) : p2 x = (s2 8 x : Nat) := by
  have hm : mk 51 8 = 3689348814741910323 := by decide
  have a1 := shR_u64 x 2 (by omega)
  have h1 : x >>> 2 < 18446744073709551616 := Nat.lt_of_le_of_lt (Nat.shiftRight_le _ _) hx
  have l1 : (x >>> 2) &&& mk 51 8 ≤ 3689348814741910323 := by rw [hm]; exact Nat.and_le_right
  have l2 : x &&& mk 51 8 ≤ 3689348814741910323 := by rw [hm]; exact Nat.and_le_right
  unfold p2 s2
  rw [show (2 : Int) = ((2 : Nat) : Int) from rfl, a1, show (3689348814741910323 : Int) = ((mk 51 8 : Nat) : Int) by rw [hm]; rfl, bAnd_u64 _ _ h1 (by rw [hm]; decide), bAnd_u64 _ _ hx (by rw [hm]; decide)]
  rw [← Int.natCast_add]
  exact wrap_u64 _ (by omega)
theorem p3_nat (x : Nat) (hx : x ≤ 7378697629483820646) : p3 x = (s3 8 x : Nat) := by
  have hm : mk 15 8 = 1085102592571150095 := by decide
  have a1 := shR_u64 x 4 (by omega)
  have h1 : x >>> 4 ≤ x := Nat.shiftRight_le _ _
  unfold p3 s3
  rw [show (4 : Int) = ((4 : Nat) : Int) from rfl, a1, ← Int.natCast_add, wrap_u64 _ (by omega), show (1085102592571150095 : Int) = ((mk 15 8 : Nat) : Int) by rw [hm]; rfl, bAnd_u64 _ _ (by omega) (by rw [hm]; decide)]
theorem p4_nat (k x : Nat) (hk : k ≤ 64) (hx : x < 9223372036854775808) : p4 k x = ((x + x / 2 ^ k : Nat) : Int) := by
  have a1 := shR_u64 x k hk
  have h1 : x >>> k ≤ x := Nat.shiftRight_le _ _
  unfold p4
  rw [a1, ← Int.natCast_add, wrap_u64 _ (by omega), Nat.shiftRight_eq_div_pow]
theorem bAnd127 (n : Nat) (h : n < 9223372036854775808) : bAnd .i64 (n : Int) 127 = ((n % 128 : Nat) : Int) := by
  have e : (BitVec.ofInt 64 (n : Int) &&& BitVec.ofInt 64 (127 : Int)).toNat = n % 128 := by
    rw [BitVec.toNat_and, show (127 : Int) = ((127 : Nat) : Int) from rfl, BitVec.ofInt_natCast, BitVec.ofInt_natCast, BitVec.toNat_ofNat, BitVec.toNat_ofNat, Nat.mod_eq_of_lt (show n < 2 ^ 64 by omega), Nat.mod_eq_of_lt (show 127 < 2 ^ 64 by decide)]
    exact Nat.and_two_pow_sub_one_eq_mod n 7
  unfold bAnd
  rw [show IntKind.i64.bits = 64 from rfl, e]
  exact wrap_i64 _ (by omega) (by omega)
theorem s1_le (x : Nat) : s1 8 x ≤ 12297829382473034410 := by
  have hm : mk 85 8 = 6148914691236517205 := by decide
  have l1 : (x >>> 1) &&& mk 85 8 ≤ 6148914691236517205 := by rw [hm]; exact Nat.and_le_right
  have l2 : x &&& mk 85 8 ≤ 6148914691236517205 := by rw [hm]; exact Nat.and_le_right
  unfold s1; omega
theorem s2_le (x : Nat) : s2 8 x ≤ 7378697629483820646 := by
  have hm : mk 51 8 = 3689348814741910323 := by decide
  have l1 : (x >>> 2) &&& mk 51 8 ≤ 3689348814741910323 := by rw [hm]; exact Nat.and_le_right
  have l2 : x &&& mk 51 8 ≤ 3689348814741910323 := by rw [hm]; exact Nat.and_le_right
  unfold s2; omega
theorem cnt_succ (n x : Nat) : cnt (n + 1) x = ones 8 (x % 256) + 256 * cnt n (x / 256) := rfl
theorem cnt8 (x : Nat) : cnt 8 x = ones 8 (x % 256) + 256 * (ones 8 (x / 256 % 256) + 256 * (ones 8 (x / 256 / 256 % 256) + 256 * (ones 8 (x / 256 / 256 / 256 % 256) + 256 * (ones 8 (x / 256 / 256 / 256 / 256 % 256) + 256 * (ones 8 (x / 256 / 256 / 256 / 256 / 256 % 256) + 256 * (ones 8 (x / 256 / 256 / 256 / 256 / 256 / 256 % 256) + 256 * ones 8 (x / 256 / 256 / 256 / 256 / 256 / 256 / 256 % 256))))))) := by
  rw [cnt_succ 7, cnt_succ 6, cnt_succ 5, cnt_succ 4, cnt_succ 3, cnt_succ 2, cnt_succ 1, cnt_succ 0]
  rfl
theorem pcI_ones (x : Nat) (hx : x < 18446744073709551616) : pcI x = (ones 64 x : Nat) := by
  have hc := cnt_lt 8 x
  rw [show mk 8 8 = 578721382704613384 by decide] at hc
  have hd1 : cnt 8 x / 2 ^ 8 ≤ cnt 8 x := Nat.div_le_self _ _
  unfold pcI
  rw [p1_nat x hx, p2_nat _ (Nat.lt_of_le_of_lt (s1_le x) (by decide)), p3_nat _ (s2_le _), s3_s2_s1]
  have e1 := p4_nat 8 (cnt 8 x) (by omega) (by omega)
  have hy1 : cnt 8 x + cnt 8 x / 2 ^ 8 ≤ 1157442765409226768 := by omega
  generalize hY1 : cnt 8 x + cnt 8 x / 2 ^ 8 = Y1 at e1 hy1
  have hd2 : Y1 / 2 ^ 16 ≤ Y1 := Nat.div_le_self _ _
  have e2 := p4_nat 16 Y1 (by omega) (by omega)
  have hy2 : Y1 + Y1 / 2 ^ 16 ≤ 2314885530818453536 := by omega
  generalize hY2 : Y1 + Y1 / 2 ^ 16 = Y2 at e2 hy2
  have hd3 : Y2 / 2 ^ 32 ≤ Y2 := Nat.div_le_self _ _
  have e3 := p4_nat 32 Y2 (by omega) (by omega)
  have hy3 : Y2 + Y2 / 2 ^ 32 ≤ 4629771061636907072 := by omega
  generalize hY3 : Y2 + Y2 / 2 ^ 32 = Y3 at e3 hy3
  rw [show (8 : Int) = ((8 : Nat) : Int) from rfl, e1, show (16 : Int) = ((16 : Nat) : Int) from rfl, e2, show (32 : Int) = ((32 : Nat) : Int) from rfl, e3, wrap_i64 _ (by omega) (by omega), bAnd127 _ (by omega)]
  refine congrArg (fun n : Nat => (n : Int)) ?_
  have hb : ∀ y, ones 8 y ≤ 8 := ones_le 8
  have hcnt := cnt8 x
  have k1 : Y1 = cnt 8 x + cnt 8 x / 256 := by clear hcnt; omega
  have k2 : Y2 = Y1 + Y1 / 65536 := by clear hcnt; omega
  have k3 : Y3 = Y2 + Y2 / 4294967296 := by clear hcnt; omega
  rw [sum_bytes _ _ _ _ _ _ _ _ (hb _) (hb _) (hb _) (hb _) (hb _) (hb _) (hb _) (hb _) (cnt 8 x) Y1 Y2 Y3 hcnt k1 k2 k3, ones_cnt]
  simp only [Nat.add_assoc]
end Go.Proofs.Ytkcbhdjhbnnlgaa
end

section
/- Contract: the library's count of ones. -/
set_option linter.unusedVariables false
set_option linter.unusedSimpArgs false
namespace Go.Proofs.Ytkcbhdjhbnnlgaa
open Go Go.RowKit Go.Proofs.Ytkcbhdjhbnnlgaa.Abs
variable {W0 : World} {σ : List Blk}
theorem c_OnesCount64 (x : Int) (K : Cont) (h0 : K (I (pcI x)) []) : ACall Try.prog W0 117 [U x] [] K := by
  refine by117 (Nat.le_of_ble_eq_true rfl) ?_
  repeat' ((conv => whnf); first
    | (refine And.intro rfl ?_)
    | (refine And.intro (by decide +kernel) ?_)
    | (refine And.intro trivial ?_)
    | (refine Exists.intro _ (And.intro rfl (And.intro rfl (And.intro (Nat.le_of_ble_eq_true rfl) ?_))))
    | (refine Exists.intro _ (And.intro rfl (And.intro rfl (And.intro rfl (And.intro (Nat.le_of_ble_eq_true rfl) ?_)))))
    | (refine And.intro (Exists.intro _ (And.intro rfl rfl)) ?_)
    | (exact fun hW => absurd hW (by decide +kernel))
    | (intro hW; (try simp only [Bool.not_true, Bool.not_false, Bool.not_eq_true', Bool.not_eq_false', decide_eq_true_eq, decide_eq_false_iff_not, reduceCtorEq, Bool.true_eq_false, Bool.false_eq_true, mk_size, List.size_toArray, ByteArray.size_append, ByteArray.size_extract, List.length_cons, List.length_nil, ba_get, ba_empty, Int.toNat_natCast] at hW))
    | (refine And.intro (?_ : _ → _) (?_ : _ → _))
    | (refine FinR.drop 0 (Nat.zero_le _) (Closed.zero _) rfl ?_)
    | (refine FinR.keep ?_)
    | (refine And.intro (det3_agg rfl) ?_)
    | (refine fL_mk ?_)
    | (refine And.intro (by (try simp only [mk_size, List.size_toArray, ByteArray.size_append, ByteArray.size_extract, List.length_cons, List.length_nil]); omega) ?_)
    | (refine And.intro (by (try simp only [mk_size, List.size_toArray, ByteArray.size_append, ByteArray.size_extract, List.length_cons, List.length_nil, wrap64_eq]); omega) ?_)
    | fail)
  all_goals exact h0
theorem d_OnesCount64 (x : Int) (K : Cont) (h0 : K (I (pcI x)) σ) : ACall Try.prog W0 117 [U x] σ K :=
  ACall.lift rfl (fun _ => rfl) (fun W1 K _ hK => c_OnesCount64 x K hK) h0
end Go.Proofs.Ytkcbhdjhbnnlgaa
end

section
/- Contracts: the meet of two sheets, and how many cells are black. -/
set_option linter.unusedVariables false
set_option linter.unusedSimpArgs false
namespace Go.Proofs.Ytkcbhdjhbnnlgaa
open Go Go.RowKit Go.Proofs.Ytkcbhdjhbnnlgaa.Abs
variable {W0 : World} {σ : List Blk}
theorem c_size (x : Int) (K : Cont) (h0 : K (I (pcI x)) []) : ACall Try.prog W0 86 [U x] [] K := by
  refine by86 (Nat.le_of_ble_eq_true rfl) ?_
  repeat' ((conv => whnf); first
    | (refine And.intro rfl ?_)
    | (refine And.intro (by decide +kernel) ?_)
    | (refine And.intro trivial ?_)
    | (refine d_OnesCount64 (h0 := ?_) ..)
    | (refine Exists.intro _ (And.intro (fun τ => callW_fn (d_OnesCount64 (h0 := And.intro rfl rfl) ..)) ?_))
    | (refine Exists.intro _ (And.intro (callW_fn (d_OnesCount64 (h0 := And.intro rfl rfl) ..)) (And.intro trivial ?_)))
    | (refine Exists.intro _ (And.intro (callW_fn (d_OnesCount64 (h0 := And.intro rfl rfl) ..)) ?_))
    | (refine Exists.intro _ (And.intro (fun τ _ => callW_fn (d_OnesCount64 (h0 := And.intro rfl rfl) ..)) ?_))
    | (refine Exists.intro _ (And.intro rfl (And.intro rfl (And.intro (Nat.le_of_ble_eq_true rfl) ?_))))
    | (refine Exists.intro _ (And.intro rfl (And.intro rfl (And.intro rfl (And.intro (Nat.le_of_ble_eq_true rfl) ?_)))))
    | (refine And.intro (Exists.intro _ (And.intro rfl rfl)) ?_)
    | (exact fun hW => absurd hW (by decide +kernel))
    | (intro hW; (try simp only [Bool.not_true, Bool.not_false, Bool.not_eq_true', Bool.not_eq_false', decide_eq_true_eq, decide_eq_false_iff_not, reduceCtorEq, Bool.true_eq_false, Bool.false_eq_true, mk_size, List.size_toArray, ByteArray.size_append, ByteArray.size_extract, List.length_cons, List.length_nil, ba_get, ba_empty, Int.toNat_natCast] at hW))
    | (refine And.intro (?_ : _ → _) (?_ : _ → _))
    | (refine FinR.drop 0 (Nat.zero_le _) (Closed.zero _) rfl ?_)
    | (refine FinR.keep ?_)
    | (refine And.intro (det3_agg rfl) ?_)
    | (refine fL_mk ?_)
    | (refine And.intro (by (try simp only [mk_size, List.size_toArray, ByteArray.size_append, ByteArray.size_extract, List.length_cons, List.length_nil]); omega) ?_)
    | (refine And.intro (by (try simp only [mk_size, List.size_toArray, ByteArray.size_append, ByteArray.size_extract, List.length_cons, List.length_nil, wrap64_eq]); omega) ?_)
    | fail)
  all_goals first | exact h0 | (refine Eq.mp (congrArg (fun v => K v []) ?_) h0; clear h0; simp_all <;> omega)
end Go.Proofs.Ytkcbhdjhbnnlgaa
end

section
/- Contracts: the cells that sheet and stamp have in common. -/
set_option linter.unusedVariables false
set_option linter.unusedSimpArgs false
namespace Go.Proofs.Ytkcbhdjhbnnlgaa
open Go Go.RowKit Go.Proofs.Ytkcbhdjhbnnlgaa.Abs
variable {W0 : World} {σ : List Blk}
theorem row_and : ∀ x : Nat, x < 64 → ∀ y : Nat, y < 64 → bAnd .i64 (x : Int) (y : Int) = ((x &&& y : Nat) : Int) := by decide +kernel
theorem inB_iff (x a b : Int) : inB x a b = true ↔ a ≤ x ∧ x ≤ b := by simp [inB]
/-- the rows of a sheet that is right, as numbers -/
theorem rows_of (a b c d e f : Int) (h : shB6 a b c d e f = true) : ∃ a0 b0 c0 d0 e0 f0 : Nat, a = a0 ∧ b = b0 ∧ c = c0 ∧ d = d0 ∧ e = e0 ∧ f = f0 ∧ a0 < 64 ∧ b0 < 64 ∧ c0 < 64 ∧ d0 < 64 ∧ e0 < 64 ∧ f0 < 64 := by
  simp only [shB6, Bool.and_eq_true, inB_iff] at h
  exact ⟨a.toNat, b.toNat, c.toNat, d.toNat, e.toNat, f.toNat, by omega, by omega, by omega, by omega, by omega, by omega, by omega, by omega, by omega, by omega, by omega, by omega⟩
/-- the number of a sheet's set -/
def setN (a b c d e f : Nat) : Nat := a + 64 * (b + 64 * (c + 64 * (d + 64 * (e + 64 * f))))
theorem wrapu (x : Nat) (h : x < 64) : IntKind.u64.wrap (x : Int) = x := wrap_u64 x (by omega)
theorem setI_nat (a b c d e f : Nat) (ha : a < 64) (hb : b < 64) (hc : c < 64) (hd : d < 64) (he : e < 64) (hf : f < 64) : setI a b c d e f = (setN a b c d e f : Nat) := by
  have or_step : ∀ k x y : Nat, x < 2 ^ k → k ≤ 30 → y < 64 → bOr .u64 (x : Int) (shL .u64 (IntKind.u64.wrap (y : Int)) ((k : Nat) : Int)) = ((x + 2 ^ k * y : Nat) : Int) := by
    intro k x y hx hk hy
    have hp : 2 ^ k ≤ 2 ^ 30 := Nat.pow_le_pow_right (by omega) hk
    have hy' : y * 2 ^ k ≤ 63 * 2 ^ 30 := Nat.mul_le_mul (by omega) hp
    rw [wrapu y hy, shL_u64 y k (by omega) (Nat.lt_of_le_of_lt hy' (by decide)), bOr_u64 _ _ (by omega) (Nat.lt_of_le_of_lt hy' (by decide))]
    have h1 := lor_dig k x 0 0 y hx (Nat.two_pow_pos k)
    rw [Nat.mul_zero, Nat.add_zero, Nat.zero_add, Nat.or_zero, Nat.zero_or] at h1
    rw [Nat.mul_comm y, h1]
  unfold setI setN
  have e0 : bOr .u64 0 (shL .u64 (IntKind.u64.wrap (a : Int)) 0) = ((a : Nat) : Int) := by
    have := or_step 0 0 a (by decide) (by omega) ha
    simpa using this
  rw [e0]
  have e1 := or_step 6 a b (by omega) (by omega) hb
  have e2 := or_step 12 _ c (show a + 2 ^ 6 * b < 2 ^ 12 by omega) (by omega) hc
  have e3 := or_step 18 _ d (show a + 2 ^ 6 * b + 2 ^ 12 * c < 2 ^ 18 by omega) (by omega) hd
  have e4 := or_step 24 _ e (show a + 2 ^ 6 * b + 2 ^ 12 * c + 2 ^ 18 * d < 2 ^ 24 by omega) (by omega) he
  have e5 := or_step 30 _ f (show a + 2 ^ 6 * b + 2 ^ 12 * c + 2 ^ 18 * d + 2 ^ 24 * e < 2 ^ 30 by omega) (by omega) hf
  rw [show (6 : Int) = ((6 : Nat) : Int) from rfl, e1, show (12 : Int) = ((12 : Nat) : Int) from rfl, e2, show (18 : Int) = ((18 : Nat) : Int) from rfl, e3, show (24 : Int) = ((24 : Nat) : Int) from rfl, e4, show (30 : Int) = ((30 : Nat) : Int) from rfl, e5]
  refine congrArg (fun n : Nat => (n : Int)) ?_
  omega
theorem ones_zero : ∀ n, ones n 0 = 0
  | 0 => rfl
  | n + 1 => by simp only [ones]; rw [Nat.zero_div, ones_zero n]
theorem setN_lt (a b c d e f : Nat) (ha : a < 64) (hb : b < 64) (hc : c < 64) (hd : d < 64) (he : e < 64) (hf : f < 64) : setN a b c d e f < 68719476736 := by unfold setN; omega
end Go.Proofs.Ytkcbhdjhbnnlgaa
end
