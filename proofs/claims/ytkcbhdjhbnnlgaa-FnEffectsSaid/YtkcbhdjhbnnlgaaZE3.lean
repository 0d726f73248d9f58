import Derived.Deep.Slices
import Derived.Test.YtkcbhdjhbnnlgaaZE2
section
/- The abstract logic, part R: a loop by the slots that live; contracts over 'Calls' as abstract calls; memory that came in. -/
set_option linter.unusedVariables false
set_option linter.unusedSimpArgs false
namespace Go.Proofs.Ytkcbhdjhbnnlgaa.Abs
open Go Go.RowKit
theorem mk_size (a : Array UInt8) : (ByteArray.mk a).size = a.size := rfl
/-- the bytes of a string -/
def tl (s : ByteArray) : List UInt8 := s.data.toList
theorem ba_get (s : ByteArray) (i : Nat) : s.data[i]?.getD 0 = (tl s).getD i 0 := by simp [List.getD, tl]
theorem ba_empty (s : ByteArray) : (s.toList == (⟨#[]⟩ : ByteArray).toList) = !decide ((1 : Int) ≤ (s.size : Nat)) := by
  rw [ByteArray.toList_eq, ByteArray.toList_eq]
  have h : s.size = s.data.toList.length := by show s.data.size = _; simp
  rw [h]
  cases s.data.toList <;> simp
  omega
theorem wrap64_eq (n : Int) : IntKind.i64.wrap n = (n + 9223372036854775808) % 18446744073709551616 - 9223372036854775808 := by
  unfold IntKind.wrap
  have e1 : IntKind.i64.bits = 64 := by decide
  have e2 : IntKind.i64.signed = true := by decide
  rw [e1, e2]
  have e3 : (2 : Int) ^ 64 = 18446744073709551616 := by decide
  have e4 : (2 : Int) ^ (64 - 1) = 9223372036854775808 := by decide
  simp only [e3, e4, Bool.true_and]
  split <;> (rename_i h; simp only [decide_eq_true_eq] at h; omega)
/-- a frame by the slots that are known -/
noncomputable def frL (l : List (Nat × AV)) : Fr := fun t => List.rec (motive := fun _ => AV) .junk (fun p _ ih => cond (Nat.beq t p.1) p.2 ih) l
def agr (l : List (Nat × AV)) (fr : Fr) : Prop := List.rec (motive := fun _ => Prop) True (fun p _ ih => fr p.1 = p.2 ∧ ih) l
theorem frL_cons {p : Nat × AV} {l : List (Nat × AV)} {t : Nat} : frL (p :: l) t = cond (Nat.beq t p.1) p.2 (frL l t) := rfl
theorem agr_cons {p : Nat × AV} {l : List (Nat × AV)} {fr : Fr} : agr (p :: l) fr = (fr p.1 = p.2 ∧ agr l fr) := rfl
theorem frL_agr {fr : Fr} : ∀ {l : List (Nat × AV)}, agr l fr → ∀ t, frL l t = .junk ∨ (frL l t = fr t ∧ ∃ p ∈ l, fr t = p.2)
  | [], _, t => .inl rfl
  | p :: l, h, t => by
    rw [agr_cons] at h
    rw [frL_cons]
    cases hb : Nat.beq t p.1 with
    | true =>
      have e : t = p.1 := Nat.eq_of_beq_eq_true hb
      right
      refine ⟨?_, p, List.mem_cons_self, ?_⟩ <;> rw [e, h.1]
      rfl
    | false =>
      rcases frL_agr h.2 t with h' | ⟨h', q, hq, hq'⟩
      · exact .inl h'
      · exact .inr ⟨h', q, List.mem_cons_of_mem _ hq, hq'⟩
/-- what becomes of the blocks at a loop's head: they stay, or those behind k are dropped -/
inductive Fgt (b0 : Nat) (l : List (Nat × AV)) (σ σ' : List Blk) : Prop
  | keep (h : σ' = σ)
  | drop (k : Nat) (hk : b0 ≤ k) (e : σ' = σ.take k) (hc : Closed k σ') (hb : l.all (fun p => bel3 k p.2) = true)
theorem Fgt.forget {b0 : Nat} {l : List (Nat × AV)} {σ σ' : List Blk} {fr : Fr} (h : Fgt b0 l σ σ') (ha : agr l fr) : Forget b0 fr σ (frL l) σ' := by
  cases h with
  | keep e => exact .inl ⟨e, fun t => (frL_agr ha t).imp id (·.1)⟩
  | drop k hk e hc hb =>
    refine .inr ⟨k, hk, e, hc, fun t => (frL_agr ha t).imp id fun ⟨h1, p, hp, h2⟩ => ⟨h1, ?_⟩⟩
    rw [h2]
    exact List.all_eq_true.1 hb p hp
/-- at the end of a round: the next round's head -/
structure Again {X : Type} (b0 : Nat) (sh : X → List (Nat × AV)) (st : X → List Blk) (inv : X → Prop) (m : X → Nat) (n : Nat) (fr : Fr) (σ : List Blk) : Prop where
  ex : ∃ m' fr'' σ'', m' < n ∧ Forget b0 fr σ fr'' σ'' ∧ ∃ y, fr'' = frL (sh y) ∧ σ'' = st y ∧ inv y ∧ m' = m y
theorem Again.go {X : Type} {b0 : Nat} {sh : X → List (Nat × AV)} {st : X → List Blk} {inv : X → Prop} {m : X → Nat} {n : Nat} {fr : Fr} {σ : List Blk} (x : X) (ha : agr (sh x) fr) (hg : Fgt b0 (sh x) σ (st x)) (hi : inv x) (hm : m x < n) :
    Again b0 sh st inv m n fr σ := ⟨m x, _, _, hm, hg.forget ha, x, rfl, rfl, hi, rfl⟩
/-- **A loop by the slots that live.** -/
theorem LoopR.live {X : Type} {b0 : Nat} {body : Fr → List Blk → CPost → Prop} {fr : Fr} {σ : List Blk} {Q : CPost} (sh : X → List (Nat × AV)) (st : X → List Blk) (inv : X → Prop) (m : X → Nat) (x0 : X)
    (hf : agr (sh x0) fr) (hσ : Fgt b0 (sh x0) σ (st x0)) (h0 : inv x0)
    (hb : ∀ x, inv x → body (frL (sh x)) (st x) fun e fr' σ' => match e with
      | .normal => Again b0 sh st inv m (m x) fr' σ'
      | e => Q e fr' σ') : LoopR b0 body fr σ Q := by
  refine LoopR.inv ⟨fun n fr' σ' => ∃ x, fr' = frL (sh x) ∧ σ' = st x ∧ inv x ∧ n = m x, m x0, frL (sh x0), st x0, hσ.forget hf, ⟨x0, rfl, rfl, h0, rfl⟩, ?_⟩
  rintro n fr' σ' ⟨x, rfl, rfl, hx, rfl⟩
  have h := hb x hx
  have e : (fun (e : Exit) (fr' : Fr) (σ' : List Blk) => (match e with | .normal => ∃ m' fr'' σ'', m' < m x ∧ Forget b0 fr' σ' fr'' σ'' ∧ (∃ y, fr'' = frL (sh y) ∧ σ'' = st y ∧ inv y ∧ m' = m y) | e => Q e fr' σ' : Prop))
      = (fun (e : Exit) (fr' : Fr) (σ' : List Blk) => (match e with | .normal => Again b0 sh st inv m (m x) fr' σ' | e => Q e fr' σ' : Prop)) := by
    funext e fr' σ'
    cases e with
    | normal => exact propext ⟨fun h => ⟨h⟩, fun h => h.ex⟩
    | _ => rfl
  exact Eq.mp (congrArg (fun k => body (frL (sh x)) (st x) k) e.symm) h
section
variable {P : Program} {W0 : World} {σ : List Blk} {K : Cont}
theorem HRel.after {ι : Loc} {w w' : World} (h : HRel W0 ι σ w) (hb : Below w.heap.size w w') : HRel W0 ι σ w' := by
  have h0 : HRel w [] [] w' := ⟨hb, rfl, fun i j c t t' h => by simp at h, fun i c t h => by simp at h, fun i B c t h => by simp at h⟩
  have h1 := (h.beside h0).1
  simpa [shB] using h1
end
/-! ### memory that came in, and own memory, as lists -/
theorem add_add (a : Addr) (i j : Nat) : (a.add i).add j = a.add (i + j) := by
  unfold Addr.add
  by_cases h : i = 0
  · subst h; simp
  · by_cases h' : j = 0
    · subst h'; simp
    · simp [h, h']; omega
theorem add_block (a : Addr) (i : Nat) : (a.add i).block = a.block := by unfold Addr.add; split <;> rfl
/-- a slice whose elements are told by a list: it came in (or is nil), or it is the call's own -/
inductive Sli {α : Type} (W0 : World) (σ : List Blk) (s : Nat) (enc : α → List Value) : AV → List α → Prop
  | nil : Sli W0 σ s enc (.lit (.slice none 0 0)) []
  | inn (ad : Addr) (n cap : Nat) (xs : List α) (hn : n = xs.length) (hc : n ≤ cap) (hm : cap ≤ maxLen) (hb : ad.block < W0.heap.size)
      (hx : ∀ i x, xs[i]? = some x → ∀ j v, (enc x)[j]? = some v → W0.cell? ((ad.add (i * s)).add j) = some v ∧ v.oneCell' = true) : Sli W0 σ s enc (.lit (.slice (some ad) n cap)) xs
  | own (b ver off n cap : Nat) (B : Blk) (xs : List α) (hB : σ[b]? = some B) (hv : B.ver = ver) (hn : n = xs.length)
      (hx : ∀ i x, xs[i]? = some x → ∀ j v, (enc x)[j]? = some v → B.cells[off + i * s + j]? = some (.lit v)) : Sli W0 σ s enc (.sl b ver off n cap) xs
section
variable {P : Program} {W0 : World} {σ : List Blk} {K : Cont} {α : Type} {s : Nat} {enc : α → List Value}
theorem Sli.conc {a : AV} {xs : List α} {ι : Loc} {W1 : World} (h : Sli W0 σ s enc a xs) (hh : HRel W0 ι σ W1) (hr : ∃ x, rel3 ι σ a x) : ∃ a', (∀ x, rel3 ι σ a x → rel3 [] [] a' x) ∧ Sli W1 [] s enc a' xs := by
  cases h with
  | nil => exact ⟨.lit (.slice none 0 0), fun x hx => hx, .nil⟩
  | inn ad n cap xs hn hc hm hb hx =>
    refine ⟨.lit (.slice (some ad) n cap), fun x hx => hx, .inn ad n cap xs hn hc hm (Nat.lt_of_lt_of_le hb hh.below.size) fun i x hi j v hj => ?_⟩
    rw [hh.below.cell (p := (ad.add (i * s)).add j) (by rw [add_block, add_block]; exact hb)]
    exact hx i x hi j v hj
  | own b ver off n cap B xs hB hv hn hx =>
    obtain ⟨x0, h0⟩ := hr
    have h0' : slRel ι σ b ver off n cap x0 := h0
    obtain ⟨c, t, hi, rfl, hc, hm, _⟩ := slRel_now h0' hB hv
    refine ⟨.lit (.slice (some ⟨c, off, none⟩) n cap), fun x hx => ?_, .inn _ n cap xs hn hc hm (hh.dom b c t hi).2 fun i x hxi j v hj => ?_⟩
    · have hx' : slRel ι σ b ver off n cap x := hx
      obtain ⟨c', t', hi', rfl, _⟩ := slRel_now hx' hB hv
      rw [hi] at hi'; cases hi'; rfl
    · obtain ⟨vs, rest, h1, h2, h3, h4⟩ := hh.blk b B c t hB hi
      have hcell := hx i x hxi j v hj
      obtain ⟨y, hy, hyr⟩ := h3.get hcell
      have e1 : y = v := hyr.1
      subst e1
      rw [add_own, cell?_own h1]
      refine ⟨?_, hyr.2⟩
      rw [List.getElem?_append_left (getElem?_lt hy)]
      exact hy
/-- **A contract that knows no own blocks holds beside any; its arguments may be own slices.** -/
theorem ACall.frameA {g : FuncId} {args : List AV} {K0 K : Cont} (hok : callOK P g = true)
    (h : ∀ W1 ι (vs : List Value), HRel W0 ι σ W1 → Rels (rel3 ι σ) args vs → ∃ args', Rels (rel3 [] []) args' vs ∧ ACall P W1 g args' [] K0) (hk : ∀ v σ', K0 v σ' → K (sh3 σ.length v) (σ ++ shB σ.length σ')) :
    ACall P W0 g args σ K := by
  refine ⟨hok, fun ι w vs hh hr => ?_⟩
  obtain ⟨args', hr', hc⟩ := h w ι vs hh hr
  refine (hc.run [] w vs (HRel.nil w) hr').mono fun e w' ⟨v, ι', σ', av, he, hk0, h3, h4, h5⟩ => ?_
  obtain ⟨h6, h7⟩ := hh.beside h3
  exact ⟨v, _, _, _, he, hk _ _ hk0, h6, h7, rel3.sh hh.len h5⟩
/-- the arguments as the callee sees them -/
inductive Sees (W1 : World) (ι : Loc) (σ : List Blk) : List AV → List AV → Prop
  | nil : Sees W1 ι σ [] []
  | cons {a a' : AV} {l l' : List AV} (h : ∀ x, rel3 ι σ a x → rel3 [] [] a' x) (t : Sees W1 ι σ l l') : Sees W1 ι σ (a :: l) (a' :: l')
/-! ### loads of what came in -/
theorem ldIn {ad : Addr} {xs : List α} (hb : ad.block < W0.heap.size) (hx : ∀ i x, xs[i]? = some x → ∀ j v, (enc x)[j]? = some v → W0.cell? ((ad.add (i * s)).add j) = some v ∧ v.oneCell' = true)
    {k : Nat} {x : α} (hk : xs[k]? = some x) (hs : (enc x).length = s) {C : List Value → Prop} (h : C (enc x)) :
    ∃ cs : List Value, cs.length = s ∧ (∀ (j : Nat) (v : Value), cs[j]? = some v → W0.cell? ((ad.add (k * s)).add j) = some v ∧ v.oneCell' = true) ∧ (ad.add (k * s)).block < W0.heap.size ∧ C cs :=
  ⟨enc x, hs, hx k x hk, by rw [add_block]; exact hb, h⟩
end
end Go.Proofs.Ytkcbhdjhbnnlgaa.Abs
end

section
/- From a contract to the statement: slices that came in. -/
set_option linter.unusedVariables false
set_option linter.unusedSimpArgs false
namespace Go.Proofs.Ytkcbhdjhbnnlgaa
open Go Go.RowKit Go.Proofs.Ytkcbhdjhbnnlgaa.Abs Go.ChangeShapes Go.WideShapes
section
variable {H : Type} {enc : TypeId × Value → H} {P : Program} {w : World} {base : Nat} {spare : Nat → Bool} {held : Bool}
theorem shape_lt {b : Nat} {r : TypeId × Nat} (h : w.shape? b = some r) : b < w.heap.size := by
  unfold World.shape? at h
  cases hb : w.heap[b]? with
  | none => rw [hb] at h; simp at h
  | some o => exact (Array.getElem?_eq_some_iff.1 hb).1
abbrev encL (l : List Int) : List Value := l.map (Value.int .i64)
end
end Go.Proofs.Ytkcbhdjhbnnlgaa
end
