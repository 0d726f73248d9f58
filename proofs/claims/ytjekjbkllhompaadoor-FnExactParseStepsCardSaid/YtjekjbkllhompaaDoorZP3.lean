import Derived.Test.YtjekjbkllhompaaDoorShelf
import Derived.Lib.Join
import Derived.Laws.BytesArg
import Derived.Test.YtjekjbkllhompaaDoorProg
import Derived.Lib.Strings
import Derived.Lib.Bytealg
import Derived.Lib.ItoaNum
import Derived.Lib.LaidTab
import Derived.Lib.AppendIntMem
import Derived.Shelf.Vars
import Derived.Lib.SplitLaws
import Derived.Lib.IndexBytes
import Derived.Test.YtjekjbkllhompaaDoorZP2
section
/- The abstract logic, part R: a loop by the slots that live; contracts over 'Calls' as abstract calls; memory that came in. -/
set_option linter.unusedVariables false
set_option linter.unusedSimpArgs false
namespace Go.Proofs.YtjekjbkllhompaaDoor.Abs
open Go Go.RowKit
theorem mk_size (a : Array UInt8) : (ByteArray.mk a).size = a.size := rfl
/-- the bytes of a string -/
def tl (s : ByteArray) : List UInt8 := s.data.toList
theorem tl_len (s : ByteArray) : (tl s).length = s.size := by show s.data.toList.length = s.data.size; simp
theorem ba_get (s : ByteArray) (i : Nat) : s.data[i]?.getD 0 = (tl s).getD i 0 := by simp [List.getD, tl]
theorem ba_empty (s : ByteArray) : (s.toList == (⟨#[]⟩ : ByteArray).toList) = !decide ((1 : Int) ≤ (s.size : Nat)) := by
  rw [ByteArray.toList_eq, ByteArray.toList_eq]
  have h : s.size = s.data.toList.length := by show s.data.size = _; simp
  rw [h]
  cases s.data.toList <;> simp
  omega
theorem wrap64_eq (n : Int) : IntKind.i64.wrap n = (n + 9223372036854775808) % 18446744073709551616 - 9223372036854775808 := by
  unfold IntKind.wrap
  have e1 : IntKind.i64.bits = 64 := by decide
  have e2 : IntKind.i64.signed = true := by decide
  rw [e1, e2]
  have e3 : (2 : Int) ^ 64 = 18446744073709551616 := by decide
  have e4 : (2 : Int) ^ (64 - 1) = 9223372036854775808 := by decide
  simp only [e3, e4, Bool.true_and]
  split <;> (rename_i h; simp only [decide_eq_true_eq] at h; omega)
/-- a frame by the slots that are known -/
noncomputable def frL (l : List (Nat × AV)) : Fr := fun t => List.rec (motive := fun _ => AV) .junk (fun p _ ih => cond (Nat.beq t p.1) p.2 ih) l
def agr (l : List (Nat × AV)) (fr : Fr) : Prop := List.rec (motive := fun _ => Prop) True (fun p _ ih => fr p.1 = p.2 ∧ ih) l
theorem frL_cons {p : Nat × AV} {l : List (Nat × AV)} {t : Nat} : frL (p :: l) t = cond (Nat.beq t p.1) p.2 (frL l t) := rfl
theorem agr_cons {p : Nat × AV} {l : List (Nat × AV)} {fr : Fr} : agr (p :: l) fr = (fr p.1 = p.2 ∧ agr l fr) := rfl
theorem frL_agr {fr : Fr} : ∀ {l : List (Nat × AV)}, agr l fr → ∀ t, frL l t = .junk ∨ (frL l t = fr t ∧ ∃ p ∈ l, fr t = p.2)
  | [], _, t => .inl rfl
  | p :: l, h, t => by
    rw [agr_cons] at h
    rw [frL_cons]
    cases hb : Nat.beq t p.1 with
    | true =>
      have e : t = p.1 := Nat.eq_of_beq_eq_true hb
      right
      refine ⟨?_, p, List.mem_cons_self, ?_⟩ <;> rw [e, h.1]
      rfl
    | false =>
      rcases frL_agr h.2 t with h' | ⟨h', q, hq, hq'⟩
      · exact .inl h'
      · exact .inr ⟨h', q, List.mem_cons_of_mem _ hq, hq'⟩
/-- what becomes of the blocks at a loop's head: they stay, or those behind k are dropped -/
inductive Fgt (b0 : Nat) (l : List (Nat × AV)) (σ σ' : List Blk) : Prop
  | keep (h : σ' = σ)
  | drop (k : Nat) (hk : b0 ≤ k) (e : σ' = σ.take k) (hc : Closed k σ') (hb : l.all (fun p => bel3 k p.2) = true)
theorem Fgt.forget {b0 : Nat} {l : List (Nat × AV)} {σ σ' : List Blk} {fr : Fr} (h : Fgt b0 l σ σ') (ha : agr l fr) : Forget b0 fr σ (frL l) σ' := by
  cases h with
  | keep e => exact .inl ⟨e, fun t => (frL_agr ha t).imp id (·.1)⟩
  | drop k hk e hc hb =>
    refine .inr ⟨k, hk, e, hc, fun t => (frL_agr ha t).imp id fun ⟨h1, p, hp, h2⟩ => ⟨h1, ?_⟩⟩
    rw [h2]
    exact List.all_eq_true.1 hb p hp
/-- at the end of a round: the next round's head -/
structure Again {X : Type} (b0 : Nat) (sh : X → List (Nat × AV)) (st : X → List Blk) (inv : X → Prop) (m : X → Nat) (n : Nat) (fr : Fr) (σ : List Blk) : Prop where
  ex : ∃ m' fr'' σ'', m' < n ∧ Forget b0 fr σ fr'' σ'' ∧ ∃ y, fr'' = frL (sh y) ∧ σ'' = st y ∧ inv y ∧ m' = m y
theorem Again.go {X : Type} {b0 : Nat} {sh : X → List (Nat × AV)} {st : X → List Blk} {inv : X → Prop} {m : X → Nat} {n : Nat} {fr : Fr} {σ : List Blk} (x : X) (ha : agr (sh x) fr) (hg : Fgt b0 (sh x) σ (st x)) (hi : inv x) (hm : m x < n) :
    Again b0 sh st inv m n fr σ := ⟨m x, _, _, hm, hg.forget ha, x, rfl, rfl, hi, rfl⟩
/-- **A loop by the slots that live.** -/
theorem LoopR.live {X : Type} {b0 : Nat} {body : Fr → List Blk → CPost → Prop} {fr : Fr} {σ : List Blk} {Q : CPost} (sh : X → List (Nat × AV)) (st : X → List Blk) (inv : X → Prop) (m : X → Nat) (x0 : X)
    (hf : agr (sh x0) fr) (hσ : Fgt b0 (sh x0) σ (st x0)) (h0 : inv x0)
    (hb : ∀ x, inv x → body (frL (sh x)) (st x) fun e fr' σ' => match e with
      | .normal => Again b0 sh st inv m (m x) fr' σ'
      | e => Q e fr' σ') : LoopR b0 body fr σ Q := by
  refine LoopR.inv ⟨fun n fr' σ' => ∃ x, fr' = frL (sh x) ∧ σ' = st x ∧ inv x ∧ n = m x, m x0, frL (sh x0), st x0, hσ.forget hf, ⟨x0, rfl, rfl, h0, rfl⟩, ?_⟩
  rintro n fr' σ' ⟨x, rfl, rfl, hx, rfl⟩
  have h := hb x hx
  have e : (fun (e : Exit) (fr' : Fr) (σ' : List Blk) => (match e with | .normal => ∃ m' fr'' σ'', m' < m x ∧ Forget b0 fr' σ' fr'' σ'' ∧ (∃ y, fr'' = frL (sh y) ∧ σ'' = st y ∧ inv y ∧ m' = m y) | e => Q e fr' σ' : Prop))
      = (fun (e : Exit) (fr' : Fr) (σ' : List Blk) => (match e with | .normal => Again b0 sh st inv m (m x) fr' σ' | e => Q e fr' σ' : Prop)) := by
    funext e fr' σ'
    cases e with
    | normal => exact propext ⟨fun h => ⟨h⟩, fun h => h.ex⟩
    | _ => rfl
  exact Eq.mp (congrArg (fun k => body (frL (sh x)) (st x) k) e.symm) h
section
variable {P : Program} {W0 : World} {σ : List Blk} {K : Cont}
theorem HRel.after {ι : Loc} {w w' : World} (h : HRel W0 ι σ w) (hb : Below w.heap.size w w') : HRel W0 ι σ w' := by
  have h0 : HRel w [] [] w' := ⟨hb, rfl, fun i j c t t' h => by simp at h, fun i c t h => by simp at h, fun i B c t h => by simp at h⟩
  have h1 := (h.beside h0).1
  simpa [shB] using h1
theorem rels_lits_inv {ι : Loc} : ∀ {vs us : List Value}, Rels (rel3 ι σ) (vs.map AV.lit) us → us = vs
  | [], us, h => h.nil_inv
  | v :: vs, us, h => by
    obtain ⟨b, m, rfl, h1, h2⟩ := Rels.uncons h
    have e1 : b = v := h1
    rw [e1, rels_lits_inv h2]
/-- a contract over 'Calls' that leaves the memory below as it was: the result leads to no block -/
theorem ACall.ofCalls {g : FuncId} {vs : List Value} {r : AV} (hok : callOK P g = true) (hs : ∀ (ι : Loc) (σ : List Blk) (x : Value), rel3 [] [] r x → rel3 ι σ r x)
    (h : ∀ w, Below W0.heap.size W0 w → Calls P g vs.toArray w fun e w' => ∃ x, e = .returned x ∧ rel3 [] [] r x ∧ Below w.heap.size w w') (hk : K r σ) : ACall P W0 g (vs.map AV.lit) σ K := by
  refine ⟨hok, fun ι w us hh hr => ?_⟩
  rw [rels_lits_inv hr]
  refine (h w hh.below).mono fun e w' ⟨x, he, hx, hb⟩ => ?_
  exact ⟨x, ι, σ, r, he, hk, hh.after hb, Ext.refl _ _, hs _ _ _ hx⟩
theorem ACall.ofCalls1 {g : FuncId} {vs : List Value} {r : Value} (hok : callOK P g = true)
    (h : ∀ w, Below W0.heap.size W0 w → Calls P g vs.toArray w fun e w' => e = .returned r ∧ Below w.heap.size w w') (hk : K (.lit r) σ) : ACall P W0 g (vs.map AV.lit) σ K :=
  ACall.ofCalls (r := .lit r) hok (fun _ _ _ h => h) (fun w hw => (h w hw).mono fun e w' ⟨he, hb⟩ => ⟨r, he, rfl, hb⟩) hk
end
/-! ### memory that came in, and own memory, as lists -/
theorem add_add (a : Addr) (i j : Nat) : (a.add i).add j = a.add (i + j) := by
  unfold Addr.add
  by_cases h : i = 0
  · subst h; simp
  · by_cases h' : j = 0
    · subst h'; simp
    · simp [h, h']; omega
theorem add_block (a : Addr) (i : Nat) : (a.add i).block = a.block := by unfold Addr.add; split <;> rfl
/-- a slice whose elements are told by a list: it came in (or is nil), or it is the call's own -/
inductive Sli {α : Type} (W0 : World) (σ : List Blk) (s : Nat) (enc : α → List Value) : AV → List α → Prop
  | nil : Sli W0 σ s enc (.lit (.slice none 0 0)) []
  | inn (ad : Addr) (n cap : Nat) (xs : List α) (hn : n = xs.length) (hc : n ≤ cap) (hm : cap ≤ maxLen) (hb : ad.block < W0.heap.size)
      (hx : ∀ i x, xs[i]? = some x → ∀ j v, (enc x)[j]? = some v → W0.cell? ((ad.add (i * s)).add j) = some v ∧ v.oneCell' = true) : Sli W0 σ s enc (.lit (.slice (some ad) n cap)) xs
  | own (b ver off n cap : Nat) (B : Blk) (xs : List α) (hB : σ[b]? = some B) (hv : B.ver = ver) (hn : n = xs.length)
      (hx : ∀ i x, xs[i]? = some x → ∀ j v, (enc x)[j]? = some v → B.cells[off + i * s + j]? = some (.lit v)) : Sli W0 σ s enc (.sl b ver off n cap) xs
section
variable {P : Program} {W0 : World} {σ : List Blk} {K : Cont} {α : Type} {s : Nat} {enc : α → List Value}
theorem Sli.conc {a : AV} {xs : List α} {ι : Loc} {W1 : World} (h : Sli W0 σ s enc a xs) (hh : HRel W0 ι σ W1) (hr : ∃ x, rel3 ι σ a x) : ∃ a', (∀ x, rel3 ι σ a x → rel3 [] [] a' x) ∧ Sli W1 [] s enc a' xs := by
  cases h with
  | nil => exact ⟨.lit (.slice none 0 0), fun x hx => hx, .nil⟩
  | inn ad n cap xs hn hc hm hb hx =>
    refine ⟨.lit (.slice (some ad) n cap), fun x hx => hx, .inn ad n cap xs hn hc hm (Nat.lt_of_lt_of_le hb hh.below.size) fun i x hi j v hj => ?_⟩
    rw [hh.below.cell (p := (ad.add (i * s)).add j) (by rw [add_block, add_block]; exact hb)]
    exact hx i x hi j v hj
  | own b ver off n cap B xs hB hv hn hx =>
    obtain ⟨x0, h0⟩ := hr
    have h0' : slRel ι σ b ver off n cap x0 := h0
    obtain ⟨c, t, hi, rfl, hc, hm, _⟩ := slRel_now h0' hB hv
    refine ⟨.lit (.slice (some ⟨c, off, none⟩) n cap), fun x hx => ?_, .inn _ n cap xs hn hc hm (hh.dom b c t hi).2 fun i x hxi j v hj => ?_⟩
    · have hx' : slRel ι σ b ver off n cap x := hx
      obtain ⟨c', t', hi', rfl, _⟩ := slRel_now hx' hB hv
      rw [hi] at hi'; cases hi'; rfl
    · obtain ⟨vs, rest, h1, h2, h3, h4⟩ := hh.blk b B c t hB hi
      have hcell := hx i x hxi j v hj
      obtain ⟨y, hy, hyr⟩ := h3.get hcell
      have e1 : y = v := hyr.1
      subst e1
      rw [add_own, cell?_own h1]
      refine ⟨?_, hyr.2⟩
      rw [List.getElem?_append_left (getElem?_lt hy)]
      exact hy
/-- **A contract that knows no own blocks holds beside any; its arguments may be own slices.** -/
theorem ACall.frameA {g : FuncId} {args : List AV} {K0 K : Cont} (hok : callOK P g = true)
    (h : ∀ W1 ι (vs : List Value), HRel W0 ι σ W1 → Rels (rel3 ι σ) args vs → ∃ args', Rels (rel3 [] []) args' vs ∧ ACall P W1 g args' [] K0) (hk : ∀ v σ', K0 v σ' → K (sh3 σ.length v) (σ ++ shB σ.length σ')) :
    ACall P W0 g args σ K := by
  refine ⟨hok, fun ι w vs hh hr => ?_⟩
  obtain ⟨args', hr', hc⟩ := h w ι vs hh hr
  refine (hc.run [] w vs (HRel.nil w) hr').mono fun e w' ⟨v, ι', σ', av, he, hk0, h3, h4, h5⟩ => ?_
  obtain ⟨h6, h7⟩ := hh.beside h3
  exact ⟨v, _, _, _, he, hk _ _ hk0, h6, h7, rel3.sh hh.len h5⟩
/-- the arguments as the callee sees them -/
inductive Sees (W1 : World) (ι : Loc) (σ : List Blk) : List AV → List AV → Prop
  | nil : Sees W1 ι σ [] []
  | cons {a a' : AV} {l l' : List AV} (h : ∀ x, rel3 ι σ a x → rel3 [] [] a' x) (t : Sees W1 ι σ l l') : Sees W1 ι σ (a :: l) (a' :: l')
/-! ### loads of what came in -/
theorem ldIn {ad : Addr} {xs : List α} (hb : ad.block < W0.heap.size) (hx : ∀ i x, xs[i]? = some x → ∀ j v, (enc x)[j]? = some v → W0.cell? ((ad.add (i * s)).add j) = some v ∧ v.oneCell' = true)
    {k : Nat} {x : α} (hk : xs[k]? = some x) (hs : (enc x).length = s) {C : List Value → Prop} (h : C (enc x)) :
    ∃ cs : List Value, cs.length = s ∧ (∀ (j : Nat) (v : Value), cs[j]? = some v → W0.cell? ((ad.add (k * s)).add j) = some v ∧ v.oneCell' = true) ∧ (ad.add (k * s)).block < W0.heap.size ∧ C cs :=
  ⟨enc x, hs, hx k x hk, by rw [add_block]; exact hb, h⟩
theorem ldInF {ad : Addr} {xs : List α} (hb : ad.block < W0.heap.size) (hx : ∀ i x, xs[i]? = some x → ∀ j v, (enc x)[j]? = some v → W0.cell? ((ad.add (i * s)).add j) = some v ∧ v.oneCell' = true)
    {k : Nat} {x : α} (hk : xs[k]? = some x) (off n : Nat) (hs : (((enc x).drop off).take n).length = n) {C : List Value → Prop} (h : C (((enc x).drop off).take n)) :
    ∃ cs : List Value, cs.length = n ∧ (∀ (j : Nat) (v : Value), cs[j]? = some v → W0.cell? (((ad.add (k * s)).add off).add j) = some v ∧ v.oneCell' = true) ∧ ((ad.add (k * s)).add off).block < W0.heap.size ∧ C cs :=
  ⟨_, hs, (fun j v hj => by
    rw [List.getElem?_take] at hj
    split at hj
    · rw [List.getElem?_drop] at hj
      rw [add_add (ad.add (k * s)) off j]
      exact hx k x hk _ v hj
    · cases hj), by rw [add_block, add_block]; exact hb, h⟩
end
end Go.Proofs.YtjekjbkllhompaaDoor.Abs
end

section
/- From a contract to the statement: arguments of several kinds of cells. -/
set_option linter.unusedVariables false
set_option linter.unusedSimpArgs false
namespace Go.Proofs.YtjekjbkllhompaaDoor
open Go Go.RowKit Go.Proofs.YtjekjbkllhompaaDoor.Abs
def kOf : Option TypeDesc → Nat
  | some (.int .i64) => 0
  | some .string => 1
  | some .bool => 2
  | _ => 9
def okK (k : Nat) (x : Value) : Prop := match k with
  | 0 => ∃ m, x = .int .i64 m ∧ IntKind.i64.has m
  | 1 => ∃ s : ByteArray, x = .string s ∧ s.size ≤ 9223372036854775807
  | 2 => ∃ b, x = .bool b
  | _ => True
theorem okK_of_cell {P : Program} {w : World} {base : Nat} {u : TypeId} {v : Value} (hok : Cell.okWide P w .any base u v) : okK (kOf (P.underlying u)) v := by
  unfold Cell.okWide at hok
  cases hu : P.underlying u with
  | none => exact trivial
  | some d =>
    rw [hu] at hok
    cases d with
    | int k =>
      cases k with
      | i64 =>
        unfold Cell.ok at hok
        rw [hu] at hok
        cases v <;> simp at hok
        exact ⟨_, by rw [hok.1], hok.2⟩
      | _ => exact trivial
    | string =>
      unfold Cell.ok at hok
      rw [hu] at hok
      cases v with
      | string s =>
        have h1 : (s.size : Int) ≤ IntKind.i64.max := hok
        have h2 : IntKind.i64.max = 9223372036854775807 := by decide
        exact ⟨s, rfl, by omega⟩
      | _ => simp at hok
    | bool =>
      unfold Cell.ok at hok
      rw [hu] at hok
      cases v with
      | bool b => exact ⟨b, rfl⟩
      | _ => simp at hok
    | _ => exact trivial
theorem val_of_okWide {P : Program} {w : World} {base k : Nat} {t : TypeId} {v : Value} (ha : aggP P t = some false) (hk : kOf (P.underlying t) = k) (h : Value.okWide P w .any base t v) : okK k v := by
  subst hk
  refine okK_of_cell (base := base) (w := w) ?_
  unfold aggP at ha
  obtain ⟨d, hd, hg⟩ := Option.map_eq_some_iff.1 ha
  unfold Value.okWide at h
  rw [hd] at h
  cases d <;> first | exact h | (simp [isAggD] at hg)
end Go.Proofs.YtjekjbkllhompaaDoor
end

section
/- Plain laws and contracts: texts of steps; lists of texts joined. -/
set_option linter.unusedVariables false
set_option linter.unusedSimpArgs false
set_option maxRecDepth 100000
set_option maxHeartbeats 4000000
namespace Go.Proofs.YtjekjbkllhompaaDoor
open Go Go.RowKit Go.Proofs.YtjekjbkllhompaaDoor.Abs
variable {W0 : World} {σ : List Blk}
abbrev stcB (ws : List ByteArray) (v : Nat) : Blk := ⟨ws.map (fun w => AV.lit (.string w)), v, 9, 1, true, true⟩
end Go.Proofs.YtjekjbkllhompaaDoor
end

section
/- The resolved code of the functions that are reached, and that it stands for the program's own. -/
set_option linter.unusedVariables false
namespace Go.Proofs.YtjekjbkllhompaaDoor
open Go Go.RowKit Go.Proofs.YtjekjbkllhompaaDoor.Abs
theorem mixed : Tryd.prog.follows .mixedOrders = true := by kernel_rfl
def r3 : RC := (.seq (.reg [.op (some 2) (.mv (.v (.lit (.bool false))))])
 (.seq (.seq (.reg [.op (some 11) (.mv (.t 0)),
  .op (some 12) (.lenS (.t 11)),
  .op (some 13) (.binI .gtr (.t 12) (.v (.lit (.int .i64 (1048576)))))])
 (.cond (.t 13)
 (.seq (.reg [.op (some 2) (.mv (.v (.lit (.bool true))))])
 .ret)
 .skip))
 (.seq (.reg [.op (some 15) (.mv (.t 0)),
  .op (some 16) (.call (.v (.lit (.func (.func 4) #[] #[]))) [(.t 15)]),
  .op (some 14) (.mv (.t 16)),
  .op (some 17) (.ext (.t 14) 0),
  .op (some 18) (.ext (.t 14) 1),
  .op (some 3) (.mv (.t 17)),
  .op (some 4) (.mv (.t 18))])
 (.seq (.reg [.op (some 20) (.mv (.t 0)),
  .op (some 21) (.call (.v (.lit (.func (.func 5) #[] #[]))) [(.t 20)]),
  .op (some 19) (.mv (.t 21)),
  .op (some 22) (.ext (.t 19) 0),
  .op (some 23) (.ext (.t 19) 1),
  .op (some 5) (.mv (.t 22)),
  .op (some 6) (.mv (.t 23))])
 (.seq (.seq (.reg [.op (some 24) (.mv (.t 5)),
  .op (some 25) (.mv (.t 3)),
  .op (some 26) (.call (.v (.lit (.func (.func 6) #[] #[]))) [(.t 24), (.t 25)]),
  .op (some 27) (.un .not (.t 26)),
  .op (some 28) (.mv (.t 27)),
  .grp 28 false [((some 29), (.mv (.t 6))), ((some 30), (.mv (.t 4))), ((some 31), (.binB true (.t 29) (.t 30)))],
  .op (some 32) (.pick (.t 28) (.v (.lit (.bool true))) (.t 31))])
 (.cond (.t 32)
 (.seq (.reg [.op (some 2) (.mv (.v (.lit (.bool false))))])
 .ret)
 .skip))
 (.seq (.reg [.op (some 7) (.mv (.v (.lit (.int .i64 (1)))))])
 (.seq (.reg [.op (some 33) (.mv (.t 5)),
  .op (some 34) (.mv (.t 7)),
  .op (some 35) (.call (.v (.lit (.func (.func 7) #[] #[]))) [(.t 33), (.t 34)]),
  .op (some 7) (.mv (.t 35))])
 (.seq (.reg [.op (some 8) (.mv (.v (.lit (.int .i64 (1)))))])
 (.seq (.reg [.op (some 36) (.mv (.t 5)),
  .op (some 37) (.mv (.t 8)),
  .op (some 38) (.call (.v (.lit (.func (.func 8) #[] #[]))) [(.t 36), (.t 37)]),
  .op (some 8) (.mv (.t 38))])
 (.seq (.seq (.reg [.op (some 39) (.mv (.t 8)),
  .op (some 40) (.binI .lss (.t 39) (.v (.lit (.int .i64 (0)))))])
 (.cond (.t 40)
 (.seq (.reg [.op (some 2) (.mv (.v (.lit (.bool false))))])
 .ret)
 .skip))
 (.seq (.seq (.reg [.op (some 41) (.mv (.t 8)),
  .op (some 42) (.mv (.t 7)),
  .op (some 43) (.binI .neq (.t 41) (.t 42))])
 (.cond (.t 43)
 (.seq (.reg [.op (some 2) (.mv (.v (.lit (.bool false))))])
 .ret)
 .skip))
 (.seq (.reg [.op (some 45) (.mv (.t 0)),
  .op (some 46) (.call (.v (.lit (.func (.func 5) #[] #[]))) [(.t 45)]),
  .op (some 44) (.mv (.t 46)),
  .op (some 47) (.ext (.t 44) 0),
  .op (some 48) (.ext (.t 44) 1),
  .op (some 9) (.mv (.t 47)),
  .op (some 10) (.mv (.t 48))])
 (.seq (.seq (.reg [.op (some 49) (.mv (.t 9)),
  .op (some 50) (.mv (.t 3)),
  .op (some 51) (.call (.v (.lit (.func (.func 6) #[] #[]))) [(.t 49), (.t 50)]),
  .op (some 52) (.un .not (.t 51)),
  .op (some 53) (.mv (.t 52)),
  .grp 53 false [((some 54), (.mv (.t 10))), ((some 55), (.mv (.t 4))), ((some 56), (.binB true (.t 54) (.t 55)))],
  .op (some 57) (.pick (.t 53) (.v (.lit (.bool true))) (.t 56))])
 (.cond (.t 57)
 (.seq (.reg [.op (some 2) (.mv (.v (.lit (.bool false))))])
 .ret)
 .skip))
 (.seq (.reg [.op (some 8) (.mv (.v (.lit (.int .i64 (1)))))])
 (.seq (.reg [.op (some 58) (.mv (.t 5)),
  .op (some 59) (.mv (.t 8)),
  .op (some 60) (.call (.v (.lit (.func (.func 8) #[] #[]))) [(.t 58), (.t 59)]),
  .op (some 8) (.mv (.t 60))])
 (.seq (.seq (.reg [.op (some 61) (.mv (.t 8)),
  .op (some 62) (.binI .lss (.t 61) (.v (.lit (.int .i64 (0)))))])
 (.cond (.t 62)
 (.seq (.reg [.op (some 2) (.mv (.v (.lit (.bool false))))])
 .ret)
 .skip))
 (.seq (.seq (.reg [.op (some 63) (.mv (.t 8)),
  .op (some 64) (.mv (.t 7)),
  .op (some 65) (.binI .neq (.t 63) (.t 64))])
 (.cond (.t 65)
 (.seq (.reg [.op (some 2) (.mv (.v (.lit (.bool false))))])
 .ret)
 .skip))
 (.seq (.reg [.op (some 2) (.mv (.v (.lit (.bool true))))])
 .ret))))))))))))))))))
def rs3 : List RR := [.tmp 2]
def cut3 : Nat → Nat := fun id => 0
theorem k3 : (Tryd.f3.body.bind fun c => comp Tryd.prog Tryd.f3.ntmps cut3 c) = some r3 := by kernel_rfl
theorem by3 {W0 : World} {σ : List Blk} {args : List AV} {K : Cont} (hn : args.length ≤ 66) (h : rW Tryd.prog W0 σ.length r3 (initFr args) σ (finP W0 rs3 σ.length K)) : ACall Tryd.prog W0 3 args σ K :=
  ACall.introR mixed Tryd.func3 (by kernel_rfl) k3 (by kernel_rfl) hn h
def r4 : RC := (.seq (.reg [.op (some 2) (.mv (.v (.lit (.slice none 0 0)))),
  .op (some 3) (.mv (.v (.lit (.bool false))))])
 (.seq (.reg [.op (some 9) (.bslice 32 4 0 (List.replicate 4 (.lit (.int .i64 (0)))) []),
  .op (some 4) (.mv (.t 9))])
 (.seq (.seq (.reg [.op (some 10) (.mv (.t 0)),
  .op (some 11) (.binS .eql (.t 10) (.v (.lit (.string ⟨#[]⟩))))])
 (.cond (.t 11)
 (.seq (.reg [.op (some 12) (.mv (.t 4)),
  .op (some 2) (.mv (.t 12)),
  .op (some 3) (.mv (.v (.lit (.bool true))))])
 .ret)
 .skip))
 (.seq (.reg [.op (some 13) (.mv (.t 0)),
  .op (some 14) (.call (.v (.lit (.func (.func 9) #[] #[]))) [(.t 13), (.v (.lit (.int .u8 (32))))]),
  .op (some 5) (.mv (.t 14))])
 (.seq (.seq (.reg [.op (some 15) (.mv (.t 5)),
  .op (some 16) (.lenL (.t 15)),
  .op (some 17) (.binI .gtr (.t 16) (.v (.lit (.int .i64 (40)))))])
 (.cond (.t 17)
 (.seq (.reg [.op (some 18) (.mv (.t 4)),
  .op (some 2) (.mv (.t 18)),
  .op (some 3) (.mv (.v (.lit (.bool false))))])
 .ret)
 .skip))
 (.seq (.seq (.reg [.op (some 6) (.mv (.v (.lit (.int .i64 (0)))))])
 (.block 0 (.loop (.seq (.seq (.reg [.op (some 19) (.mv (.t 6)),
  .op (some 20) (.mv (.t 5)),
  .op (some 21) (.lenL (.t 20)),
  .op (some 22) (.binI .lss (.t 19) (.t 21))])
 (.cond (.t 22)
 .skip
 (.exit 0)))
 (.seq (.block 1 (.seq (.reg [.op (some 26) (.mv (.t 5)),
  .op (some 27) (.mv (.t 6)),
  .op (some 28) (.iaddrS 1 (.t 26) (.t 27)),
  .op (some 29) (.load 1 false (.t 28)),
  .op (some 30) (.call (.v (.lit (.func (.func 10) #[] #[]))) [(.t 29)]),
  .op (some 25) (.mv (.t 30)),
  .op (some 31) (.ext (.t 25) 0),
  .op (some 32) (.ext (.t 25) 1),
  .op (some 7) (.alloc 32 (List.replicate 4 (.lit (.int .i64 (0))))),
  .op none (.store 4 (.t 7) (.t 31)),
  .op (some 8) (.mv (.t 32))])
 (.seq (.seq (.reg [.op (some 33) (.mv (.t 8)),
  .op (some 34) (.un .not (.t 33))])
 (.cond (.t 34)
 (.seq (.reg [.op (some 35) (.bslice 32 4 0 (List.replicate 4 (.lit (.int .i64 (0)))) []),
  .op (some 2) (.mv (.t 35)),
  .op (some 3) (.mv (.v (.lit (.bool false))))])
 .ret)
 .skip))
 (.reg [.op (some 36) (.mv (.t 4)),
  .op (some 37) (.load 4 true (.t 7)),
  .app (some 39) 38 32 4 32 (.t 36) 1 (List.replicate 4 (.lit (.int .i64 (0)))) [(0, (.t 37))],
  .op (some 4) (.mv (.t 39))]))))
 (.reg [.op (some 23) (.mv (.t 6)),
  .op (some 24) (.binI .add (.t 23) (.v (.lit (.int .i64 (1))))),
  .op (some 6) (.mv (.t 24))]))))))
 (.seq (.reg [.op (some 40) (.mv (.t 4)),
  .op (some 2) (.mv (.t 40)),
  .op (some 3) (.mv (.v (.lit (.bool true))))])
 .ret)))))))
def rs4 : List RR := [.tmp 2, .tmp 3]
def cut4 : Nat → Nat := fun id => 0
theorem k4 : (Tryd.f4.body.bind fun c => comp Tryd.prog Tryd.f4.ntmps cut4 c) = some r4 := by kernel_rfl
theorem by4 {W0 : World} {σ : List Blk} {args : List AV} {K : Cont} (hn : args.length ≤ 41) (h : rW Tryd.prog W0 σ.length r4 (initFr args) σ (finP W0 rs4 σ.length K)) : ACall Tryd.prog W0 4 args σ K :=
  ACall.introR mixed Tryd.func4 (by kernel_rfl) k4 (by kernel_rfl) hn h
def r5 : RC := (.seq (.reg [.op (some 2) (.mv (.v (.lit (.slice none 0 0)))),
  .op (some 3) (.mv (.v (.lit (.bool false))))])
 (.seq (.reg [.op (some 9) (.bslice 32 4 0 (List.replicate 4 (.lit (.int .i64 (0)))) []),
  .op (some 4) (.mv (.t 9))])
 (.seq (.seq (.reg [.op (some 10) (.mv (.t 0)),
  .op (some 11) (.binS .eql (.t 10) (.v (.lit (.string ⟨#[]⟩))))])
 (.cond (.t 11)
 (.seq (.reg [.op (some 12) (.mv (.t 4)),
  .op (some 2) (.mv (.t 12)),
  .op (some 3) (.mv (.v (.lit (.bool true))))])
 .ret)
 .skip))
 (.seq (.reg [.op (some 13) (.mv (.t 0)),
  .op (some 14) (.call (.v (.lit (.func (.func 11) #[] #[]))) [(.t 13), (.v (.lit (.string ⟨#[32]⟩)))]),
  .op (some 5) (.mv (.t 14))])
 (.seq (.seq (.reg [.op (some 15) (.mv (.t 5)),
  .op (some 16) (.lenL (.t 15)),
  .op (some 17) (.binI .gtr (.t 16) (.v (.lit (.int .i64 (40)))))])
 (.cond (.t 17)
 (.seq (.reg [.op (some 2) (.mv (.v (.lit (.slice none 0 0)))),
  .op (some 3) (.mv (.v (.lit (.bool false))))])
 .ret)
 .skip))
 (.seq (.seq (.reg [.op (some 18) (.mv (.t 5)),
  .op (some 19) (.lenL (.t 18)),
  .op (some 20) (.mv (.v (.lit (.int .i64 (0)))))])
 (.block 0 (.loop (.seq (.reg [.op (some 21) (.binI .lss (.t 20) (.t 19))])
 (.seq (.cond (.t 21)
 .skip
 (.exit 0))
 (.seq (.block 1 (.seq (.reg [.op (some 22) (.iaddrS 1 (.t 18) (.t 20)),
  .op (some 23) (.load 1 false (.t 22)),
  .op (some 7) (.mv (.t 23))])
 (.seq (.seq (.reg [.op (some 24) (.mv (.t 7)),
  .op (some 25) (.lenS (.t 24)),
  .op (some 26) (.binI .neq (.t 25) (.v (.lit (.int .i64 (4)))))])
 (.cond (.t 26)
 (.seq (.reg [.op (some 2) (.mv (.v (.lit (.slice none 0 0)))),
  .op (some 3) (.mv (.v (.lit (.bool false))))])
 .ret)
 .skip))
 (.seq (.draw [((some 27), (.mv (.t 7))), ((some 28), (.idxS (.t 27) (.v (.lit (.int .i64 (0)))))), ((some 29), (.call (.v (.lit (.func (.func 12) #[] #[]))) [(.v (.lit (.string ⟨#[63, 116, 105, 119]⟩))), (.t 28)])), ((some 30), (.mv (.t 7))), ((some 31), (.idxS (.t 30) (.v (.lit (.int .i64 (1)))))), ((some 32), (.conv .i64 (.t 31))), ((some 33), (.binI .sub (.t 32) (.v (.lit (.int .i64 (48)))))), ((some 34), (.mv (.t 7))), ((some 35), (.idxS (.t 34) (.v (.lit (.int .i64 (2)))))), ((some 36), (.conv .i64 (.t 35))), ((some 37), (.binI .sub (.t 36) (.v (.lit (.int .i64 (48)))))), ((some 38), (.mv (.t 7))), ((some 39), (.idxS (.t 38) (.v (.lit (.int .i64 (3)))))), ((some 40), (.conv .i64 (.t 39))), ((some 41), (.binI .sub (.t 40) (.v (.lit (.int .i64 (48)))))), ((some 42), (.build [(.lit (.int .i64 (0))), (.lit (.int .i64 (0)))] [((0, 1), (.t 37)), ((1, 1), (.t 41))])), ((some 43), (.build (List.replicate 4 (.lit (.int .i64 (0)))) [((0, 1), (.t 29)), ((1, 1), (.t 33)), ((2, 2), (.t 42))]))] [((some 8), (.alloc 32 (List.replicate 4 (.lit (.int .i64 (0)))))), (none, (.store 4 (.t 8) (.t 43)))])
 (.seq (.seq (.reg [.op (some 44) (.load 4 true (.t 8)),
  .op (some 45) (.call (.v (.lit (.func (.func 13) #[] #[]))) [(.t 44), (.v (.lit (.int .i64 (4))))]),
  .op (some 46) (.un .not (.t 45))])
 (.cond (.t 46)
 (.seq (.reg [.op (some 2) (.mv (.v (.lit (.slice none 0 0)))),
  .op (some 3) (.mv (.v (.lit (.bool false))))])
 .ret)
 .skip))
 (.reg [.op (some 47) (.mv (.t 4)),
  .op (some 48) (.load 4 true (.t 8)),
  .app (some 50) 49 32 4 32 (.t 47) 1 (List.replicate 4 (.lit (.int .i64 (0)))) [(0, (.t 48))],
  .op (some 4) (.mv (.t 50))]))))))
 (.reg [.op (some 51) (.binI .add (.t 20) (.v (.lit (.int .i64 (1))))),
  .op (some 20) (.mv (.t 51))])))))))
 (.seq (.reg [.op (some 52) (.mv (.t 4)),
  .op (some 2) (.mv (.t 52)),
  .op (some 3) (.mv (.v (.lit (.bool true))))])
 .ret)))))))
def rs5 : List RR := [.tmp 2, .tmp 3]
def cut5 : Nat → Nat := fun id => if id = 12 then 35 else 0
theorem k5 : (Tryd.f5.body.bind fun c => comp Tryd.prog Tryd.f5.ntmps cut5 c) = some r5 := by kernel_rfl
theorem by5 {W0 : World} {σ : List Blk} {args : List AV} {K : Cont} (hn : args.length ≤ 53) (h : rW Tryd.prog W0 σ.length r5 (initFr args) σ (finP W0 rs5 σ.length K)) : ACall Tryd.prog W0 5 args σ K :=
  ACall.introR mixed Tryd.func5 (by kernel_rfl) k5 (by kernel_rfl) hn h
def r6 : RC := (.seq (.reg [.op (some 4) (.mv (.v (.lit (.bool false))))])
 (.seq (.seq (.reg [.op (some 6) (.mv (.t 0)),
  .op (some 7) (.lenL (.t 6)),
  .op (some 8) (.mv (.t 1)),
  .op (some 9) (.lenL (.t 8)),
  .op (some 10) (.binI .neq (.t 7) (.t 9))])
 (.cond (.t 10)
 (.seq (.reg [.op (some 4) (.mv (.v (.lit (.bool false))))])
 .ret)
 .skip))
 (.seq (.seq (.reg [.op (some 5) (.mv (.v (.lit (.int .i64 (0)))))])
 (.block 0 (.loop (.seq (.seq (.reg [.op (some 11) (.mv (.t 5)),
  .op (some 12) (.mv (.t 0)),
  .op (some 13) (.lenL (.t 12)),
  .op (some 14) (.binI .lss (.t 11) (.t 13))])
 (.cond (.t 14)
 .skip
 (.exit 0)))
 (.seq (.block 1 (.seq (.draw [((some 17), (.mv (.t 0))), ((some 18), (.mv (.t 5))), ((some 19), (.iaddrS 4 (.t 17) (.t 18))), ((some 20), (.load 4 true (.t 19))), ((some 21), (.mv (.t 1))), ((some 22), (.mv (.t 5))), ((some 23), (.iaddrS 4 (.t 21) (.t 22))), ((some 24), (.load 4 true (.t 23))), ((some 25), (.call (.v (.lit (.func (.func 14) #[] #[]))) [(.t 20), (.t 24)])), ((some 26), (.un .not (.t 25)))] [])
 (.cond (.t 26)
 (.seq (.reg [.op (some 4) (.mv (.v (.lit (.bool false))))])
 .ret)
 .skip)))
 (.reg [.op (some 15) (.mv (.t 5)),
  .op (some 16) (.binI .add (.t 15) (.v (.lit (.int .i64 (1))))),
  .op (some 5) (.mv (.t 16))]))))))
 (.seq (.reg [.op (some 4) (.mv (.v (.lit (.bool true))))])
 .ret))))
def rs6 : List RR := [.tmp 4]
def cut6 : Nat → Nat := fun id => if id = 6 then 21 else 0
theorem k6 : (Tryd.f6.body.bind fun c => comp Tryd.prog Tryd.f6.ntmps cut6 c) = some r6 := by kernel_rfl
theorem by6 {W0 : World} {σ : List Blk} {args : List AV} {K : Cont} (hn : args.length ≤ 27) (h : rW Tryd.prog W0 σ.length r6 (initFr args) σ (finP W0 rs6 σ.length K)) : ACall Tryd.prog W0 6 args σ K :=
  ACall.introR mixed Tryd.func6 (by kernel_rfl) k6 (by kernel_rfl) hn h
def r7 : RC := (.seq (.reg [.op (some 4) (.mv (.v (.lit (.int .i64 (0)))))])
 (.seq (.seq (.reg [.op (some 5) (.mv (.v (.lit (.int .i64 (0)))))])
 (.block 0 (.loop (.seq (.seq (.reg [.op (some 7) (.mv (.t 5)),
  .op (some 8) (.mv (.t 0)),
  .op (some 9) (.lenL (.t 8)),
  .op (some 10) (.binI .lss (.t 7) (.t 9))])
 (.cond (.t 10)
 .skip
 (.exit 0)))
 (.seq (.block 1 (.seq (.reg [.op (some 13) (.mv (.t 0)),
  .op (some 14) (.mv (.t 5)),
  .op (some 15) (.mv (.t 1)),
  .op (some 16) (.iaddrS 4 (.t 13) (.t 14)),
  .op (some 17) (.faddr 0 (.t 16)),
  .op none (.store 1 (.t 17) (.t 15))])
 (.seq (.reg [.op (some 18) (.mv (.t 1)),
  .op (some 19) (.binI .add (.t 18) (.v (.lit (.int .i64 (1))))),
  .op (some 1) (.mv (.t 19))])
 (.seq (.reg [.op (some 20) (.mv (.t 0)),
  .op (some 21) (.mv (.t 5)),
  .op (some 22) (.mv (.t 1)),
  .op (some 23) (.iaddrS 4 (.t 20) (.t 21)),
  .op (some 24) (.faddr 1 (.t 23)),
  .op none (.store 1 (.t 24) (.t 22))])
 (.seq (.reg [.op (some 25) (.mv (.t 1)),
  .op (some 26) (.binI .add (.t 25) (.v (.lit (.int .i64 (1))))),
  .op (some 1) (.mv (.t 26))])
 (.seq (.reg [.op (some 6) (.mv (.v (.lit (.int .i64 (0)))))])
 (.block 2 (.loop (.seq (.seq (.reg [.op (some 27) (.mv (.t 6)),
  .op (some 28) (.binI .lss (.t 27) (.v (.lit (.int .i64 (2)))))])
 (.cond (.t 28)
 .skip
 (.exit 2)))
 (.seq (.block 3 (.seq (.reg [.op (some 31) (.mv (.t 0)),
  .op (some 32) (.mv (.t 5)),
  .op (some 33) (.mv (.t 6)),
  .op (some 34) (.mv (.t 1)),
  .op (some 35) (.iaddrS 4 (.t 31) (.t 32)),
  .op (some 36) (.faddr 2 (.t 35)),
  .op (some 37) (.iaddrA 2 1 (.t 36) (.t 33)),
  .op none (.store 1 (.t 37) (.t 34))])
 (.reg [.op (some 38) (.mv (.t 1)),
  .op (some 39) (.binI .add (.t 38) (.v (.lit (.int .i64 (1))))),
  .op (some 1) (.mv (.t 39))])))
 (.reg [.op (some 29) (.mv (.t 6)),
  .op (some 30) (.binI .add (.t 29) (.v (.lit (.int .i64 (1))))),
  .op (some 6) (.mv (.t 30))])))))))))))
 (.reg [.op (some 11) (.mv (.t 5)),
  .op (some 12) (.binI .add (.t 11) (.v (.lit (.int .i64 (1))))),
  .op (some 5) (.mv (.t 12))]))))))
 (.seq (.reg [.op (some 40) (.mv (.t 1)),
  .op (some 4) (.mv (.t 40))])
 .ret)))
def rs7 : List RR := [.tmp 4]
def cut7 : Nat → Nat := fun id => 0
theorem k7 : (Tryd.f7.body.bind fun c => comp Tryd.prog Tryd.f7.ntmps cut7 c) = some r7 := by kernel_rfl
theorem by7 {W0 : World} {σ : List Blk} {args : List AV} {K : Cont} (hn : args.length ≤ 41) (h : rW Tryd.prog W0 σ.length r7 (initFr args) σ (finP W0 rs7 σ.length K)) : ACall Tryd.prog W0 7 args σ K :=
  ACall.introR mixed Tryd.func7 (by kernel_rfl) k7 (by kernel_rfl) hn h
def r8 : RC := (.seq (.reg [.op (some 4) (.mv (.v (.lit (.int .i64 (0)))))])
 (.seq (.seq (.reg [.op (some 5) (.mv (.v (.lit (.int .i64 (0)))))])
 (.block 0 (.loop (.seq (.seq (.reg [.op (some 7) (.mv (.t 5)),
  .op (some 8) (.mv (.t 0)),
  .op (some 9) (.lenL (.t 8)),
  .op (some 10) (.binI .lss (.t 7) (.t 9))])
 (.cond (.t 10)
 .skip
 (.exit 0)))
 (.seq (.block 1 (.seq (.seq (.reg [.op (some 13) (.mv (.t 0)),
  .op (some 14) (.mv (.t 5)),
  .op (some 15) (.iaddrS 4 (.t 13) (.t 14)),
  .op (some 16) (.faddr 0 (.t 15)),
  .op (some 17) (.load 1 false (.t 16)),
  .op (some 18) (.mv (.t 1)),
  .op (some 19) (.binI .neq (.t 17) (.t 18))])
 (.cond (.t 19)
 (.seq (.reg [.op (some 4) (.mv (.v (.lit (.int .i64 (-1)))))])
 .ret)
 .skip))
 (.seq (.reg [.op (some 20) (.mv (.t 1)),
  .op (some 21) (.binI .add (.t 20) (.v (.lit (.int .i64 (1))))),
  .op (some 1) (.mv (.t 21))])
 (.seq (.seq (.reg [.op (some 22) (.mv (.t 0)),
  .op (some 23) (.mv (.t 5)),
  .op (some 24) (.iaddrS 4 (.t 22) (.t 23)),
  .op (some 25) (.faddr 1 (.t 24)),
  .op (some 26) (.load 1 false (.t 25)),
  .op (some 27) (.mv (.t 1)),
  .op (some 28) (.binI .neq (.t 26) (.t 27))])
 (.cond (.t 28)
 (.seq (.reg [.op (some 4) (.mv (.v (.lit (.int .i64 (-1)))))])
 .ret)
 .skip))
 (.seq (.reg [.op (some 29) (.mv (.t 1)),
  .op (some 30) (.binI .add (.t 29) (.v (.lit (.int .i64 (1))))),
  .op (some 1) (.mv (.t 30))])
 (.seq (.reg [.op (some 6) (.mv (.v (.lit (.int .i64 (0)))))])
 (.block 2 (.loop (.seq (.seq (.reg [.op (some 31) (.mv (.t 6)),
  .op (some 32) (.binI .lss (.t 31) (.v (.lit (.int .i64 (2)))))])
 (.cond (.t 32)
 .skip
 (.exit 2)))
 (.seq (.block 3 (.seq (.seq (.reg [.op (some 35) (.mv (.t 0)),
  .op (some 36) (.mv (.t 5)),
  .op (some 37) (.mv (.t 6)),
  .op (some 38) (.iaddrS 4 (.t 35) (.t 36)),
  .op (some 39) (.faddr 2 (.t 38)),
  .op (some 40) (.iaddrA 2 1 (.t 39) (.t 37)),
  .op (some 41) (.load 1 false (.t 40)),
  .op (some 42) (.mv (.t 1)),
  .op (some 43) (.binI .neq (.t 41) (.t 42))])
 (.cond (.t 43)
 (.seq (.reg [.op (some 4) (.mv (.v (.lit (.int .i64 (-1)))))])
 .ret)
 .skip))
 (.reg [.op (some 44) (.mv (.t 1)),
  .op (some 45) (.binI .add (.t 44) (.v (.lit (.int .i64 (1))))),
  .op (some 1) (.mv (.t 45))])))
 (.reg [.op (some 33) (.mv (.t 6)),
  .op (some 34) (.binI .add (.t 33) (.v (.lit (.int .i64 (1))))),
  .op (some 6) (.mv (.t 34))])))))))))))
 (.reg [.op (some 11) (.mv (.t 5)),
  .op (some 12) (.binI .add (.t 11) (.v (.lit (.int .i64 (1))))),
  .op (some 5) (.mv (.t 12))]))))))
 (.seq (.reg [.op (some 46) (.mv (.t 1)),
  .op (some 4) (.mv (.t 46))])
 .ret)))
def rs8 : List RR := [.tmp 4]
def cut8 : Nat → Nat := fun id => 0
theorem k8 : (Tryd.f8.body.bind fun c => comp Tryd.prog Tryd.f8.ntmps cut8 c) = some r8 := by kernel_rfl
theorem by8 {W0 : World} {σ : List Blk} {args : List AV} {K : Cont} (hn : args.length ≤ 47) (h : rW Tryd.prog W0 σ.length r8 (initFr args) σ (finP W0 rs8 σ.length K)) : ACall Tryd.prog W0 8 args σ K :=
  ACall.introR mixed Tryd.func8 (by kernel_rfl) k8 (by kernel_rfl) hn h
def r9 : RC := (.seq (.reg [.op (some 4) (.mv (.v (.lit (.slice none 0 0))))])
 (.seq (.reg [.op (some 8) (.bslice 9 1 0 [(.lit (.string ⟨#[]⟩))] []),
  .op (some 5) (.mv (.t 8))])
 (.seq (.reg [.op (some 6) (.mv (.v (.lit (.int .i64 (0)))))])
 (.seq (.seq (.reg [.op (some 7) (.mv (.v (.lit (.int .i64 (0)))))])
 (.block 0 (.loop (.seq (.seq (.reg [.op (some 9) (.mv (.t 7)),
  .op (some 10) (.mv (.t 0)),
  .op (some 11) (.lenS (.t 10)),
  .op (some 12) (.binI .lss (.t 9) (.t 11))])
 (.cond (.t 12)
 .skip
 (.exit 0)))
 (.seq (.block 1 (.seq (.reg [.op (some 15) (.mv (.t 0)),
  .op (some 16) (.mv (.t 7)),
  .op (some 17) (.idxS (.t 15) (.t 16)),
  .op (some 18) (.mv (.t 1)),
  .op (some 19) (.binI .eql (.t 17) (.t 18))])
 (.cond (.t 19)
 (.seq (.reg [.op (some 20) (.mv (.t 5)),
  .op (some 21) (.mv (.t 0)),
  .op (some 22) (.mv (.t 6)),
  .op (some 23) (.mv (.t 7)),
  .op (some 24) (.sliceS (.t 21) (some (.t 22)) (some (.t 23))),
  .app (some 26) 25 9 1 16 (.t 20) 1 [(.lit (.string ⟨#[]⟩))] [(0, (.t 24))],
  .op (some 5) (.mv (.t 26))])
 (.reg [.op (some 27) (.mv (.t 7)),
  .op (some 28) (.binI .add (.t 27) (.v (.lit (.int .i64 (1))))),
  .op (some 6) (.mv (.t 28))]))
 .skip)))
 (.reg [.op (some 13) (.mv (.t 7)),
  .op (some 14) (.binI .add (.t 13) (.v (.lit (.int .i64 (1))))),
  .op (some 7) (.mv (.t 14))]))))))
 (.seq (.reg [.op (some 29) (.mv (.t 5)),
  .op (some 30) (.mv (.t 0)),
  .op (some 31) (.mv (.t 6)),
  .op (some 32) (.sliceS (.t 30) (some (.t 31)) none),
  .app (some 34) 33 9 1 16 (.t 29) 1 [(.lit (.string ⟨#[]⟩))] [(0, (.t 32))],
  .op (some 4) (.mv (.t 34))])
 .ret)))))
def rs9 : List RR := [.tmp 4]
def cut9 : Nat → Nat := fun id => 0
theorem k9 : (Tryd.f9.body.bind fun c => comp Tryd.prog Tryd.f9.ntmps cut9 c) = some r9 := by kernel_rfl
theorem by9 {W0 : World} {σ : List Blk} {args : List AV} {K : Cont} (hn : args.length ≤ 35) (h : rW Tryd.prog W0 σ.length r9 (initFr args) σ (finP W0 rs9 σ.length K)) : ACall Tryd.prog W0 9 args σ K :=
  ACall.introR mixed Tryd.func9 (by kernel_rfl) k9 (by kernel_rfl) hn h
def r10 : RC := (.seq (.reg [.op (some 2) (.alloc 32 (List.replicate 4 (.lit (.int .i64 (0))))),
  .op (some 3) (.mv (.v (.lit (.bool false))))])
 (.seq (.seq (.reg [.op (some 5) (.mv (.t 0)),
  .op (some 6) (.lenS (.t 5)),
  .op (some 7) (.binI .neq (.t 6) (.v (.lit (.int .i64 (4)))))])
 (.cond (.t 7)
 (.seq (.reg [.op (some 8) (.build (List.replicate 4 (.lit (.int .i64 (0)))) []),
  .op none (.store 4 (.t 2) (.t 8)),
  .op (some 3) (.mv (.v (.lit (.bool false))))])
 .ret)
 .skip))
 (.seq (.draw [((some 9), (.mv (.t 0))), ((some 10), (.idxS (.t 9) (.v (.lit (.int .i64 (1)))))), ((some 11), (.conv .i64 (.t 10))), ((some 12), (.binI .sub (.t 11) (.v (.lit (.int .i64 (48)))))), ((some 13), (.mv (.t 0))), ((some 14), (.idxS (.t 13) (.v (.lit (.int .i64 (2)))))), ((some 15), (.conv .i64 (.t 14))), ((some 16), (.binI .sub (.t 15) (.v (.lit (.int .i64 (48)))))), ((some 17), (.mv (.t 0))), ((some 18), (.idxS (.t 17) (.v (.lit (.int .i64 (3)))))), ((some 19), (.conv .i64 (.t 18))), ((some 20), (.binI .sub (.t 19) (.v (.lit (.int .i64 (48)))))), ((some 21), (.build [(.lit (.int .i64 (0))), (.lit (.int .i64 (0)))] [((0, 1), (.t 16)), ((1, 1), (.t 20))])), ((some 22), (.build (List.replicate 4 (.lit (.int .i64 (0)))) [((1, 1), (.t 12)), ((2, 2), (.t 21))]))] [((some 4), (.alloc 32 (List.replicate 4 (.lit (.int .i64 (0)))))), (none, (.store 4 (.t 4) (.t 22)))])
 (.seq (.seq (.reg [.op (some 23) (.mv (.t 0)),
  .op (some 24) (.idxS (.t 23) (.v (.lit (.int .i64 (0)))))])
 (.block 0 (.seq (.reg [.op (some 26) (.binI .eql (.t 24) (.v (.lit (.int .u8 (116))))),
  .op (some 25) (.mv (.t 26))])
 (.cond (.t 25)
 (.reg [.op (some 27) (.faddr 0 (.t 4)),
  .op none (.store 1 (.t 27) (.v (.lit (.int .i64 (1)))))])
 (.seq (.reg [.op (some 29) (.binI .eql (.t 24) (.v (.lit (.int .u8 (105))))),
  .op (some 28) (.mv (.t 29))])
 (.cond (.t 28)
 (.reg [.op (some 30) (.faddr 0 (.t 4)),
  .op none (.store 1 (.t 30) (.v (.lit (.int .i64 (2)))))])
 (.seq (.reg [.op (some 32) (.binI .eql (.t 24) (.v (.lit (.int .u8 (119))))),
  .op (some 31) (.mv (.t 32))])
 (.cond (.t 31)
 (.reg [.op (some 33) (.faddr 0 (.t 4)),
  .op none (.store 1 (.t 33) (.v (.lit (.int .i64 (3)))))])
 .skip))))))))
 (.seq (.quiet [.op (some 34) (.load 4 true (.t 4)),
  .op (some 35) (.load 4 true (.t 4)),
  .op (some 36) (.call (.v (.lit (.func (.func 15) #[] #[]))) [(.t 35), (.v (.lit (.int .i64 (4))))])] [.op none (.store 4 (.t 2) (.t 34)),
  .op (some 3) (.mv (.t 36))])
 .ret)))))
def rs10 : List RR := [.cell 2 4 true, .tmp 3]
def cut10 : Nat → Nat := fun id => if id = 3 then 29 else if id = 11 then 6 else 0
theorem k10 : (Tryd.f10.body.bind fun c => comp Tryd.prog Tryd.f10.ntmps cut10 c) = some r10 := by kernel_rfl
theorem by10 {W0 : World} {σ : List Blk} {args : List AV} {K : Cont} (hn : args.length ≤ 37) (h : rW Tryd.prog W0 σ.length r10 (initFr args) σ (finP W0 rs10 σ.length K)) : ACall Tryd.prog W0 10 args σ K :=
  ACall.introR mixed Tryd.func10 (by kernel_rfl) k10 (by kernel_rfl) hn h
def r13 : RC := (.seq (.reg [.op (some 2) (.box 32 (.t 0)),
  .op (some 4) (.mv (.v (.lit (.bool false))))])
 (.seq (.reg [.op (some 5) (.faddr 0 (.t 2)),
  .op (some 6) (.load 1 false (.t 5)),
  .op (some 7) (.binI .geq (.t 6) (.v (.lit (.int .i64 (1))))),
  .op (some 8) (.mv (.t 7)),
  .grp 8 true [((some 9), (.faddr 0 (.t 2))), ((some 10), (.load 1 false (.t 9))), ((some 11), (.binI .leq (.t 10) (.v (.lit (.int .i64 (3))))))],
  .op (some 12) (.pick (.t 8) (.t 11) (.v (.lit (.bool false)))),
  .op (some 13) (.mv (.t 12)),
  .grp 13 true [((some 14), (.faddr 1 (.t 2))), ((some 15), (.load 1 false (.t 14))), ((some 16), (.binI .geq (.t 15) (.v (.lit (.int .i64 (0))))))],
  .op (some 17) (.pick (.t 13) (.t 16) (.v (.lit (.bool false)))),
  .op (some 18) (.mv (.t 17)),
  .grp 18 true [((some 19), (.faddr 1 (.t 2))), ((some 20), (.load 1 false (.t 19))), ((some 21), (.mv (.t 1))), ((some 22), (.binI .lss (.t 20) (.t 21)))],
  .op (some 23) (.pick (.t 18) (.t 22) (.v (.lit (.bool false)))),
  .op (some 24) (.mv (.t 23)),
  .grp 24 true [((some 25), (.faddr 2 (.t 2))), ((some 26), (.load 2 true (.t 25))), ((some 27), (.call (.v (.lit (.func (.func 18) #[] #[]))) [(.t 26)]))],
  .op (some 28) (.pick (.t 24) (.t 27) (.v (.lit (.bool false)))),
  .op (some 4) (.mv (.t 28))])
 .ret))
def rs13 : List RR := [.tmp 4]
def cut13 : Nat → Nat := fun id => 0
theorem k13 : (Tryd.f13.body.bind fun c => comp Tryd.prog Tryd.f13.ntmps cut13 c) = some r13 := by kernel_rfl
theorem by13 {W0 : World} {σ : List Blk} {args : List AV} {K : Cont} (hn : args.length ≤ 29) (h : rW Tryd.prog W0 σ.length r13 (initFr args) σ (finP W0 rs13 σ.length K)) : ACall Tryd.prog W0 13 args σ K :=
  ACall.introR mixed Tryd.func13 (by kernel_rfl) k13 (by kernel_rfl) hn h
def r14 : RC := (.seq (.reg [.op (some 2) (.box 32 (.t 0)),
  .op (some 3) (.box 32 (.t 1)),
  .op (some 4) (.mv (.v (.lit (.bool false))))])
 (.seq (.seq (.reg [.op (some 5) (.faddr 0 (.t 2)),
  .op (some 6) (.load 1 false (.t 5)),
  .op (some 7) (.faddr 0 (.t 3)),
  .op (some 8) (.load 1 false (.t 7)),
  .op (some 9) (.binI .neq (.t 6) (.t 8))])
 (.cond (.t 9)
 (.seq (.reg [.op (some 4) (.mv (.v (.lit (.bool false))))])
 .ret)
 .skip))
 (.seq (.seq (.reg [.op (some 10) (.faddr 1 (.t 2)),
  .op (some 11) (.load 1 false (.t 10)),
  .op (some 12) (.faddr 1 (.t 3)),
  .op (some 13) (.load 1 false (.t 12)),
  .op (some 14) (.binI .neq (.t 11) (.t 13))])
 (.cond (.t 14)
 (.seq (.reg [.op (some 4) (.mv (.v (.lit (.bool false))))])
 .ret)
 .skip))
 (.seq (.seq (.reg [.op (some 15) (.faddr 2 (.t 2)),
  .op (some 16) (.load 2 true (.t 15)),
  .op (some 17) (.faddr 2 (.t 3)),
  .op (some 18) (.load 2 true (.t 17)),
  .op (some 19) (.call (.v (.lit (.func (.func 19) #[] #[]))) [(.t 16), (.t 18)]),
  .op (some 20) (.un .not (.t 19))])
 (.cond (.t 20)
 (.seq (.reg [.op (some 4) (.mv (.v (.lit (.bool false))))])
 .ret)
 .skip))
 (.seq (.reg [.op (some 4) (.mv (.v (.lit (.bool true))))])
 .ret)))))
def rs14 : List RR := [.tmp 4]
def cut14 : Nat → Nat := fun id => 0
theorem k14 : (Tryd.f14.body.bind fun c => comp Tryd.prog Tryd.f14.ntmps cut14 c) = some r14 := by kernel_rfl
theorem by14 {W0 : World} {σ : List Blk} {args : List AV} {K : Cont} (hn : args.length ≤ 21) (h : rW Tryd.prog W0 σ.length r14 (initFr args) σ (finP W0 rs14 σ.length K)) : ACall Tryd.prog W0 14 args σ K :=
  ACall.introR mixed Tryd.func14 (by kernel_rfl) k14 (by kernel_rfl) hn h
def r15 : RC := (.seq (.reg [.op (some 2) (.box 32 (.t 0)),
  .op (some 4) (.mv (.v (.lit (.bool false))))])
 (.seq (.reg [.op (some 5) (.faddr 0 (.t 2)),
  .op (some 6) (.load 1 false (.t 5)),
  .op (some 7) (.call (.v (.lit (.func (.func 20) #[] #[]))) [(.t 6), (.v (.lit (.int .i64 (1)))), (.v (.lit (.int .i64 (3))))]),
  .op (some 8) (.mv (.t 7)),
  .grp 8 true [((some 9), (.faddr 1 (.t 2))), ((some 10), (.load 1 false (.t 9))), ((some 11), (.mv (.t 1))), ((some 12), (.binI .sub (.t 11) (.v (.lit (.int .i64 (1)))))), ((some 13), (.call (.v (.lit (.func (.func 20) #[] #[]))) [(.t 10), (.v (.lit (.int .i64 (0)))), (.t 12)]))],
  .op (some 14) (.pick (.t 8) (.t 13) (.v (.lit (.bool false)))),
  .op (some 15) (.mv (.t 14)),
  .grp 15 true [((some 16), (.faddr 2 (.t 2))), ((some 17), (.load 2 true (.t 16))), ((some 18), (.call (.v (.lit (.func (.func 21) #[] #[]))) [(.t 17)]))],
  .op (some 19) (.pick (.t 15) (.t 18) (.v (.lit (.bool false)))),
  .op (some 4) (.mv (.t 19))])
 .ret))
def rs15 : List RR := [.tmp 4]
def cut15 : Nat → Nat := fun id => 0
theorem k15 : (Tryd.f15.body.bind fun c => comp Tryd.prog Tryd.f15.ntmps cut15 c) = some r15 := by kernel_rfl
theorem by15 {W0 : World} {σ : List Blk} {args : List AV} {K : Cont} (hn : args.length ≤ 20) (h : rW Tryd.prog W0 σ.length r15 (initFr args) σ (finP W0 rs15 σ.length K)) : ACall Tryd.prog W0 15 args σ K :=
  ACall.introR mixed Tryd.func15 (by kernel_rfl) k15 (by kernel_rfl) hn h
def r18 : RC := (.seq (.reg [.op (some 1) (.box 30 (.t 0)),
  .op (some 2) (.mv (.v (.lit (.bool false))))])
 (.seq (.reg [.op (some 3) (.iaddrA 2 1 (.t 1) (.v (.lit (.int .i64 (0))))),
  .op (some 4) (.load 1 false (.t 3)),
  .op (some 5) (.binI .geq (.t 4) (.v (.lit (.int .i64 (0))))),
  .op (some 6) (.mv (.t 5)),
  .grp 6 true [((some 7), (.iaddrA 2 1 (.t 1) (.v (.lit (.int .i64 (0)))))), ((some 8), (.load 1 false (.t 7))), ((some 9), (.binI .lss (.t 8) (.v (.lit (.int .i64 (6))))))],
  .op (some 10) (.pick (.t 6) (.t 9) (.v (.lit (.bool false)))),
  .op (some 11) (.mv (.t 10)),
  .grp 11 true [((some 12), (.iaddrA 2 1 (.t 1) (.v (.lit (.int .i64 (1)))))), ((some 13), (.load 1 false (.t 12))), ((some 14), (.binI .geq (.t 13) (.v (.lit (.int .i64 (0))))))],
  .op (some 15) (.pick (.t 11) (.t 14) (.v (.lit (.bool false)))),
  .op (some 16) (.mv (.t 15)),
  .grp 16 true [((some 17), (.iaddrA 2 1 (.t 1) (.v (.lit (.int .i64 (1)))))), ((some 18), (.load 1 false (.t 17))), ((some 19), (.binI .lss (.t 18) (.v (.lit (.int .i64 (6))))))],
  .op (some 20) (.pick (.t 16) (.t 19) (.v (.lit (.bool false)))),
  .op (some 2) (.mv (.t 20))])
 .ret))
def rs18 : List RR := [.tmp 2]
def cut18 : Nat → Nat := fun id => 0
theorem k18 : (Tryd.f18.body.bind fun c => comp Tryd.prog Tryd.f18.ntmps cut18 c) = some r18 := by kernel_rfl
theorem by18 {W0 : World} {σ : List Blk} {args : List AV} {K : Cont} (hn : args.length ≤ 21) (h : rW Tryd.prog W0 σ.length r18 (initFr args) σ (finP W0 rs18 σ.length K)) : ACall Tryd.prog W0 18 args σ K :=
  ACall.introR mixed Tryd.func18 (by kernel_rfl) k18 (by kernel_rfl) hn h
def r19 : RC := (.seq (.reg [.op (some 2) (.box 30 (.t 0)),
  .op (some 3) (.box 30 (.t 1)),
  .op (some 4) (.mv (.v (.lit (.bool false))))])
 (.seq (.seq (.reg [.op (some 5) (.mv (.v (.lit (.int .i64 (0)))))])
 (.block 0 (.loop (.seq (.seq (.reg [.op (some 6) (.mv (.t 5)),
  .op (some 7) (.binI .lss (.t 6) (.v (.lit (.int .i64 (2)))))])
 (.cond (.t 7)
 .skip
 (.exit 0)))
 (.seq (.block 1 (.seq (.draw [((some 10), (.mv (.t 5))), ((some 11), (.iaddrA 2 1 (.t 2) (.t 10))), ((some 12), (.load 1 false (.t 11))), ((some 13), (.mv (.t 5))), ((some 14), (.iaddrA 2 1 (.t 3) (.t 13))), ((some 15), (.load 1 false (.t 14))), ((some 16), (.binI .neq (.t 12) (.t 15)))] [])
 (.cond (.t 16)
 (.seq (.reg [.op (some 4) (.mv (.v (.lit (.bool false))))])
 .ret)
 .skip)))
 (.reg [.op (some 8) (.mv (.t 5)),
  .op (some 9) (.binI .add (.t 8) (.v (.lit (.int .i64 (1))))),
  .op (some 5) (.mv (.t 9))]))))))
 (.seq (.reg [.op (some 4) (.mv (.v (.lit (.bool true))))])
 .ret)))
def rs19 : List RR := [.tmp 4]
def cut19 : Nat → Nat := fun id => if id = 4 then 15 else 0
theorem k19 : (Tryd.f19.body.bind fun c => comp Tryd.prog Tryd.f19.ntmps cut19 c) = some r19 := by kernel_rfl
theorem by19 {W0 : World} {σ : List Blk} {args : List AV} {K : Cont} (hn : args.length ≤ 17) (h : rW Tryd.prog W0 σ.length r19 (initFr args) σ (finP W0 rs19 σ.length K)) : ACall Tryd.prog W0 19 args σ K :=
  ACall.introR mixed Tryd.func19 (by kernel_rfl) k19 (by kernel_rfl) hn h
def r20 : RC := (.seq (.reg [.op (some 6) (.mv (.v (.lit (.bool false))))])
 (.seq (.reg [.op (some 7) (.mv (.t 0)),
  .op (some 8) (.mv (.t 1)),
  .op (some 9) (.binI .geq (.t 7) (.t 8)),
  .op (some 10) (.mv (.t 9)),
  .grp 10 true [((some 11), (.mv (.t 0))), ((some 12), (.mv (.t 2))), ((some 13), (.binI .leq (.t 11) (.t 12)))],
  .op (some 14) (.pick (.t 10) (.t 13) (.v (.lit (.bool false)))),
  .op (some 6) (.mv (.t 14))])
 .ret))
def rs20 : List RR := [.tmp 6]
def cut20 : Nat → Nat := fun id => 0
theorem k20 : (Tryd.f20.body.bind fun c => comp Tryd.prog Tryd.f20.ntmps cut20 c) = some r20 := by kernel_rfl
theorem by20 {W0 : World} {σ : List Blk} {args : List AV} {K : Cont} (hn : args.length ≤ 15) (h : rW Tryd.prog W0 σ.length r20 (initFr args) σ (finP W0 rs20 σ.length K)) : ACall Tryd.prog W0 20 args σ K :=
  ACall.introR mixed Tryd.func20 (by kernel_rfl) k20 (by kernel_rfl) hn h
def r21 : RC := (.seq (.reg [.op (some 1) (.box 30 (.t 0)),
  .op (some 2) (.mv (.v (.lit (.bool false))))])
 (.seq (.reg [.op (some 3) (.iaddrA 2 1 (.t 1) (.v (.lit (.int .i64 (0))))),
  .op (some 4) (.load 1 false (.t 3)),
  .op (some 5) (.call (.v (.lit (.func (.func 20) #[] #[]))) [(.t 4), (.v (.lit (.int .i64 (0)))), (.v (.lit (.int .i64 (5))))]),
  .op (some 6) (.mv (.t 5)),
  .grp 6 true [((some 7), (.iaddrA 2 1 (.t 1) (.v (.lit (.int .i64 (1)))))), ((some 8), (.load 1 false (.t 7))), ((some 9), (.call (.v (.lit (.func (.func 20) #[] #[]))) [(.t 8), (.v (.lit (.int .i64 (0)))), (.v (.lit (.int .i64 (5))))]))],
  .op (some 10) (.pick (.t 6) (.t 9) (.v (.lit (.bool false)))),
  .op (some 2) (.mv (.t 10))])
 .ret))
def rs21 : List RR := [.tmp 2]
def cut21 : Nat → Nat := fun id => 0
theorem k21 : (Tryd.f21.body.bind fun c => comp Tryd.prog Tryd.f21.ntmps cut21 c) = some r21 := by kernel_rfl
theorem by21 {W0 : World} {σ : List Blk} {args : List AV} {K : Cont} (hn : args.length ≤ 11) (h : rW Tryd.prog W0 σ.length r21 (initFr args) σ (finP W0 rs21 σ.length K)) : ACall Tryd.prog W0 21 args σ K :=
  ACall.introR mixed Tryd.func21 (by kernel_rfl) k21 (by kernel_rfl) hn h
end Go.Proofs.YtjekjbkllhompaaDoor
end

section
/- Contracts of small functions: what they compute. -/
set_option linter.unusedVariables false
set_option linter.unusedSimpArgs false
namespace Go.Proofs.YtjekjbkllhompaaDoor
open Go Go.RowKit Go.Proofs.YtjekjbkllhompaaDoor.Abs
theorem fL_mk {l : List AV} {K : List AV → Prop} (h : K l) : fL l K := by rw [fL_eq]; exact h
def litAll : List AV → Bool
  | [] => true
  | .lit _ :: l => litAll l
  | _ :: _ => false
theorem det3_agg {σ : List Blk} : ∀ {cs : List AV}, litAll cs = true → det3 σ (.agg cs) := by
  intro cs h v hv
  induction cs with
  | nil => cases hv
  | cons a cs ih =>
    cases a with
    | lit x => cases hv with
      | head => exact trivial
      | tail _ hv => exact ih h hv
    | _ => cases h
abbrev I (n : Int) : AV := .lit (.int .i64 n)
abbrev Bo (b : Bool) : AV := .lit (.bool b)
abbrev St (s : ByteArray) : AV := .lit (.string s)
variable {W0 : World} {σ : List Blk}
def inB (x a b : Int) : Bool := decide (a ≤ x) && decide (x ≤ b)
theorem c_l1In (x a b : Int) (K : Cont) (h0 : K (Bo (inB x a b)) []) : ACall Tryd.prog W0 20 [I x, I a, I b] [] K := by
  refine by20 (Nat.le_of_ble_eq_true rfl) ?_
  repeat' ((conv => whnf); first
    | (refine And.intro rfl ?_)
    | (refine And.intro (by decide +kernel) ?_)
    | (refine And.intro trivial ?_)
    | (refine Exists.intro _ (And.intro rfl (And.intro rfl (And.intro (Nat.le_of_ble_eq_true rfl) ?_))))
    | (refine Exists.intro _ (And.intro rfl (And.intro rfl (And.intro rfl (And.intro (Nat.le_of_ble_eq_true rfl) ?_)))))
    | (refine And.intro (Exists.intro _ (And.intro rfl rfl)) ?_)
    | (exact fun hW => absurd hW (by decide +kernel))
    | (intro hW; (try simp only [Bool.not_true, Bool.not_false, Bool.not_eq_true', Bool.not_eq_false', decide_eq_true_eq, decide_eq_false_iff_not, reduceCtorEq, Bool.true_eq_false, Bool.false_eq_true, mk_size, List.size_toArray, ByteArray.size_append, ByteArray.size_extract, List.length_cons, List.length_nil, ba_get, ba_empty, Int.toNat_natCast] at hW))
    | (refine And.intro (?_ : _ → _) (?_ : _ → _))
    | (refine FinR.drop 0 (Nat.zero_le _) (Closed.zero _) rfl ?_)
    | (refine FinR.keep ?_)
    | (refine And.intro (det3_agg rfl) ?_)
    | (refine fL_mk ?_)
    | (refine And.intro (by (try simp only [mk_size, List.size_toArray, ByteArray.size_append, ByteArray.size_extract, List.length_cons, List.length_nil]); omega) ?_)
    | (refine And.intro (by (try simp only [mk_size, List.size_toArray, ByteArray.size_append, ByteArray.size_extract, List.length_cons, List.length_nil, wrap64_eq]); omega) ?_)
    | fail)
  all_goals first | exact h0 | (refine Eq.mp (congrArg (fun v => K v []) ?_) h0; clear h0; simp_all [inB] <;> omega)
theorem d_l1In (x a b : Int) (K : Cont) (h0 : K (Bo (inB x a b)) σ) : ACall Tryd.prog W0 20 [I x, I a, I b] σ K :=
  ACall.lift rfl (fun _ => rfl) (fun W1 K _ h => c_l1In x a b K h) h0
abbrev Sh (a b c d e f : Int) : AV := .agg [I a, I b, I c, I d, I e, I f]
end Go.Proofs.YtjekjbkllhompaaDoor
end

section
/- Contracts: sheets and shops. -/
set_option linter.unusedVariables false
set_option linter.unusedSimpArgs false
namespace Go.Proofs.YtjekjbkllhompaaDoor
open Go Go.RowKit Go.Proofs.YtjekjbkllhompaaDoor.Abs
variable {W0 : World} {σ : List Blk}
abbrev U (n : Int) : AV := .lit (.int .u64 n)
abbrev Sp (a b c d e f a' b' c' d' e' f' p q : Int) : AV := .agg [I a, I b, I c, I d, I e, I f, I a', I b', I c', I d', I e', I f', I p, I q]
end Go.Proofs.YtjekjbkllhompaaDoor
end

section
/- Contracts: the laws of new shops and of new consoles. -/
set_option linter.unusedVariables false
set_option linter.unusedSimpArgs false
namespace Go.Proofs.YtjekjbkllhompaaDoor
open Go Go.RowKit Go.Proofs.YtjekjbkllhompaaDoor.Abs
variable {W0 : World} {σ : List Blk}
abbrev Co (a b c d e f a' b' c' d' e' f' p q : Int) (s t : ByteArray) (n : Int) : AV := .agg [I a, I b, I c, I d, I e, I f, I a', I b', I c', I d', I e', I f', I p, I q, St s, St t, I n]
end Go.Proofs.YtjekjbkllhompaaDoor
end

section
/- Plain laws: digits of numbers, and that the parallel count of bits counts them. -/
set_option linter.unusedVariables false
set_option linter.unusedSimpArgs false
namespace Go.Proofs.YtjekjbkllhompaaDoor
open Go Go.Proofs.YtjekjbkllhompaaDoor.Abs
/-! ### the parallel count, byte by byte -/
def mk (m : Nat) : Nat → Nat
  | 0 => 0
  | n + 1 => m + 256 * mk m n
def s1 (n x : Nat) : Nat := ((x >>> 1) &&& mk 85 n) + (x &&& mk 85 n)
def s2 (n x : Nat) : Nat := ((x >>> 2) &&& mk 51 n) + (x &&& mk 51 n)
def b1 (d : Nat) : Nat := ((d >>> 1) &&& 85) + (d &&& 85)
def b2 (d : Nat) : Nat := ((d >>> 2) &&& 51) + (d &&& 51)
def b3 (d : Nat) : Nat := ((d >>> 4) + d) &&& 15
end Go.Proofs.YtjekjbkllhompaaDoor
end

section
/- Plain laws: operations on the machine's unsigned words, as numbers. -/
set_option linter.unusedVariables false
set_option linter.unusedSimpArgs false
namespace Go.Proofs.YtjekjbkllhompaaDoor
open Go Go.Proofs.YtjekjbkllhompaaDoor.Abs
theorem wrap_i64 (n : Int) (h0 : -9223372036854775808 ≤ n) (h1 : n ≤ 9223372036854775807) : IntKind.i64.wrap n = n := by
  simp [IntKind.wrap, IntKind.signed, IntKind.bits]
  omega
end Go.Proofs.YtjekjbkllhompaaDoor
end

section
/- Plain law: what the library's count of ones computes is the number of ones. -/
set_option linter.unusedVariables false
set_option linter.unusedSimpArgs false
namespace Go.Proofs.YtjekjbkllhompaaDoor
open Go Go.Proofs.YtjekjbkllhompaaDoor.Abs
def p1 (x : Int) : Int := IntKind.u64.wrap (bAnd .u64 (shR .u64 x 1) 6148914691236517205 + bAnd .u64 x 6148914691236517205)
def p2 (x : Int) : Int := IntKind.u64.wrap (bAnd .u64 (shR .u64 x 2) 3689348814741910323 + bAnd .u64 x 3689348814741910323)
def p3 (x : Int) : Int := bAnd .u64 (IntKind.u64.wrap (shR .u64 x 4 + x)) 1085102592571150095
def p4 (k : Int) (x : Int) : Int := IntKind.u64.wrap (x + shR .u64 x k)
end Go.Proofs.YtjekjbkllhompaaDoor
end

section
/- Contracts: the cells that sheet and stamp have in common. -/
set_option linter.unusedVariables false
set_option linter.unusedSimpArgs false
namespace Go.Proofs.YtjekjbkllhompaaDoor
open Go Go.RowKit Go.Proofs.YtjekjbkllhompaaDoor.Abs
variable {W0 : World} {σ : List Blk}
/-- the number of a sheet's set -/
def setN (a b c d e f : Nat) : Nat := a + 64 * (b + 64 * (c + 64 * (d + 64 * (e + 64 * f))))
end Go.Proofs.YtjekjbkllhompaaDoor
end

section
/- Arithmetic: sets of cells as numbers; cells that go elsewhere; sheets by their sets. -/
set_option linter.unusedVariables false
set_option linter.unusedSimpArgs false
namespace Go.Proofs.YtjekjbkllhompaaDoor
open Go Go.RowKit Go.Proofs.YtjekjbkllhompaaDoor.Abs
/-- the cells that go where g tells -/
def mvN (g : Nat → Nat) (n : Nat) : Nat → Nat
  | 0 => 0
  | m + 1 => mvN g n m ||| (if n.testBit m then 2 ^ g m else 0)
abbrev Perm (g h : Nat → Nat) : Prop := ∀ k, k < 36 → g k < 36 ∧ h k < 36 ∧ g (h k) = k ∧ h (g k) = k
/-- a row of a set -/
def rowN (n i : Nat) : Nat := (n >>> (6 * i)) % 64
abbrev ShN (n : Nat) : AV := Sh (rowN n 0 : Nat) (rowN n 1 : Nat) (rowN n 2 : Nat) (rowN n 3 : Nat) (rowN n 4 : Nat) (rowN n 5 : Nat)
/-! shifts -/
def shG (x y k : Nat) : Nat := (k / 6 + y) % 6 * 6 + (k % 6 + x) % 6
end Go.Proofs.YtjekjbkllhompaaDoor
end

section
/- Contracts: sets that move; sheets by their sets. -/
set_option linter.unusedVariables false
set_option linter.unusedSimpArgs false
set_option maxRecDepth 100000
set_option maxHeartbeats 4000000
namespace Go.Proofs.YtjekjbkllhompaaDoor
open Go Go.RowKit Go.Proofs.YtjekjbkllhompaaDoor.Abs
variable {W0 : World} {σ : List Blk}
theorem kB' {K : Cont} {σ : List Blk} {x y : Bool} (h : K (Bo x) σ) (e : y = x) : K (Bo y) σ := e ▸ h
theorem slI' {a b : Int} (h : a = b) : AV.lit (.int .i64 a) = I b := by rw [h]
end Go.Proofs.YtjekjbkllhompaaDoor
end

section
/- Contracts: sheets of sets; the reference's sheets by their sets. -/
set_option linter.unusedVariables false
set_option linter.unusedSimpArgs false
set_option maxRecDepth 100000
set_option maxHeartbeats 4000000
namespace Go.Proofs.YtjekjbkllhompaaDoor
open Go Go.RowKit Go.Proofs.YtjekjbkllhompaaDoor.Abs
variable {W0 : World} {σ : List Blk}
abbrev Ce (x y : Int) : AV := .agg [I x, I y]
def cellB (x y : Int) : Bool := inB x 0 5 && inB y 0 5
theorem c_l2Cell (x y : Int) (K : Cont) (h0 : K (Bo (cellB x y)) []) : ACall Tryd.prog W0 21 [Ce x y] [] K := by
  refine by21 (Nat.le_of_ble_eq_true rfl) ?_
  repeat' ((conv => whnf); first
    | (refine And.intro rfl ?_)
    | (refine And.intro (by decide +kernel) ?_)
    | (refine And.intro trivial ?_)
    | (refine d_l1In (h0 := ?_) ..)
    | (refine Exists.intro _ (And.intro (fun τ => callW_fn (d_l1In (h0 := And.intro rfl rfl) ..)) ?_))
    | (refine Exists.intro _ (And.intro (callW_fn (d_l1In (h0 := And.intro rfl rfl) ..)) (And.intro trivial ?_)))
    | (refine Exists.intro _ (And.intro (callW_fn (d_l1In (h0 := And.intro rfl rfl) ..)) ?_))
    | (refine Exists.intro _ (And.intro (fun τ _ => callW_fn (d_l1In (h0 := And.intro rfl rfl) ..)) ?_))
    | (refine Exists.intro _ (And.intro rfl (And.intro rfl (And.intro (Nat.le_of_ble_eq_true rfl) ?_))))
    | (refine Exists.intro _ (And.intro rfl (And.intro rfl (And.intro rfl (And.intro (Nat.le_of_ble_eq_true rfl) ?_)))))
    | (refine And.intro (Exists.intro _ (And.intro rfl rfl)) ?_)
    | (exact fun hW => absurd hW (by decide +kernel))
    | (intro hW; (try simp only [Bool.not_true, Bool.not_false, Bool.not_eq_true', Bool.not_eq_false', decide_eq_true_eq, decide_eq_false_iff_not, reduceCtorEq, Bool.true_eq_false, Bool.false_eq_true, mk_size, List.size_toArray, ByteArray.size_append, ByteArray.size_extract, List.length_cons, List.length_nil, ba_get, ba_empty, Int.toNat_natCast] at hW))
    | (refine And.intro (?_ : _ → _) (?_ : _ → _))
    | (refine FinR.drop 0 (Nat.zero_le _) (Closed.zero _) rfl ?_)
    | (refine FinR.keep ?_)
    | (refine And.intro (det3_agg rfl) ?_)
    | (refine fL_mk ?_)
    | (refine And.intro (by (try simp only [mk_size, List.size_toArray, ByteArray.size_append, ByteArray.size_extract, List.length_cons, List.length_nil]); omega) ?_)
    | (refine And.intro (by (try simp only [mk_size, List.size_toArray, ByteArray.size_append, ByteArray.size_extract, List.length_cons, List.length_nil, wrap64_eq]); omega) ?_)
    | fail)
  all_goals first | exact h0 | (refine Eq.mp (congrArg (fun v => K v []) ?_) h0; clear h0; simp_all [cellB] <;> omega)
theorem d_l2Cell (x y : Int) (K : Cont) (h0 : K (Bo (cellB x y)) σ) : ACall Tryd.prog W0 21 [Ce x y] σ K :=
  ACall.lift rfl (fun _ => rfl) (fun W1 K _ hK => c_l2Cell x y K hK) h0
theorem cellB_iff {x y : Int} : cellB x y = true ↔ 0 ≤ x ∧ x < 6 ∧ 0 ≤ y ∧ y < 6 := by
  simp [cellB, inB]; omega
theorem c_isCell (x y : Int) (K : Cont) (h0 : K (Bo (cellB x y)) []) : ACall Tryd.prog W0 18 [Ce x y] [] K := by
  refine by18 (Nat.le_of_ble_eq_true rfl) ?_
  repeat' ((conv => whnf); first
    | (refine And.intro rfl ?_)
    | (refine And.intro (by decide +kernel) ?_)
    | (refine And.intro trivial ?_)
    | (refine Exists.intro _ (And.intro rfl (And.intro rfl (And.intro (Nat.le_of_ble_eq_true rfl) ?_))))
    | (refine Exists.intro _ (And.intro rfl (And.intro rfl (And.intro rfl (And.intro (Nat.le_of_ble_eq_true rfl) ?_)))))
    | (refine And.intro (Exists.intro _ (And.intro rfl rfl)) ?_)
    | (exact fun hW => absurd hW (by decide +kernel))
    | (intro hW; (try simp only [Bool.not_true, Bool.not_false, Bool.not_eq_true', Bool.not_eq_false', decide_eq_true_eq, decide_eq_false_iff_not, reduceCtorEq, Bool.true_eq_false, Bool.false_eq_true, mk_size, List.size_toArray, ByteArray.size_append, ByteArray.size_extract, List.length_cons, List.length_nil, ba_get, ba_empty, Int.toNat_natCast] at hW))
    | (refine And.intro (?_ : _ → _) (?_ : _ → _))
    | (refine FinR.drop 0 (Nat.zero_le _) (Closed.zero _) rfl ?_)
    | (refine FinR.keep ?_)
    | (refine And.intro (det3_agg rfl) ?_)
    | (refine fL_mk ?_)
    | (refine And.intro (by (try simp only [mk_size, List.size_toArray, ByteArray.size_append, ByteArray.size_extract, List.length_cons, List.length_nil]); omega) ?_)
    | (refine And.intro (by (try simp only [mk_size, List.size_toArray, ByteArray.size_append, ByteArray.size_extract, List.length_cons, List.length_nil, wrap64_eq]); omega) ?_)
    | fail)
  all_goals (refine kB' h0 ?_; rw [Bool.eq_iff_iff, cellB_iff]; simp only [decide_eq_true_eq, Bool.false_eq_true]; refine Iff.intro (fun h => ?_) (fun h => ?_) <;> first | exact h.elim | omega)
theorem d_isCell (x y : Int) (K : Cont) (h0 : K (Bo (cellB x y)) σ) : ACall Tryd.prog W0 18 [Ce x y] σ K :=
  ACall.lift rfl (fun _ => rfl) (fun W1 K _ hK => c_isCell x y K hK) h0
/-! ### the reference's sheets -/
end Go.Proofs.YtjekjbkllhompaaDoor
end

section
/- Contracts: presses, flips. -/
set_option linter.unusedVariables false
set_option linter.unusedSimpArgs false
set_option maxRecDepth 100000
set_option maxHeartbeats 4000000
namespace Go.Proofs.YtjekjbkllhompaaDoor
open Go Go.RowKit Go.Proofs.YtjekjbkllhompaaDoor.Abs
variable {W0 : World} {σ : List Blk}
/-- a stamp that is pressed at a cell -/
def prN (m x y : Nat) : Nat := mvN (shG x y) m 36
abbrev Sh0 : AV := Sh 0 0 0 0 0 0
end Go.Proofs.YtjekjbkllhompaaDoor
end

section
/- Contracts: jobs in a shop. -/
set_option linter.unusedVariables false
set_option linter.unusedSimpArgs false
set_option maxRecDepth 100000
set_option maxHeartbeats 4000000
namespace Go.Proofs.YtjekjbkllhompaaDoor
open Go Go.RowKit Go.Proofs.YtjekjbkllhompaaDoor.Abs
variable {W0 : World} {σ : List Blk}
abbrev SpN (n m : Nat) (p q : Int) : AV := Sp (rowN n 0 : Nat) (rowN n 1 : Nat) (rowN n 2 : Nat) (rowN n 3 : Nat) (rowN n 4 : Nat) (rowN n 5 : Nat) (rowN m 0 : Nat) (rowN m 1 : Nat) (rowN m 2 : Nat) (rowN m 3 : Nat) (rowN m 4 : Nat) (rowN m 5 : Nat) p q
abbrev Jb (k a b : Int) : AV := .agg [I k, I a, I b]
abbrev Sp0 : AV := Sp 0 0 0 0 0 0 0 0 0 0 0 0 0 0
end Go.Proofs.YtjekjbkllhompaaDoor
end

section
/- Contracts: lists of jobs. -/
set_option linter.unusedVariables false
set_option linter.unusedSimpArgs false
set_option maxRecDepth 100000
set_option maxHeartbeats 4000000
namespace Go.Proofs.YtjekjbkllhompaaDoor
open Go Go.RowKit Go.Proofs.YtjekjbkllhompaaDoor.Abs
variable {W0 : World} {σ : List Blk}
theorem wsucc' (x : Nat) (hx : x < 4611686018427387904) : IntKind.i64.wrap ((x : Int) + 1) = ((x + 1 : Nat) : Int) := by rw [wrap_i64 _ (by omega) (by omega)]; omega
abbrev enI (l : List Int) : List Value := l.map (Value.int .i64)
/-- the cells of a list of rows -/
def jc (l : List (List Int)) : List AV := (l.map fun x => x.map I).flatten
theorem jc_len {s : Nat} : ∀ {l : List (List Int)}, (∀ x ∈ l, x.length = s) → (jc l).length = l.length * s
  | [], _ => by simp [jc]
  | x :: l, h => by
    have h1 := jc_len (l := l) fun y hy => h y (List.mem_cons_of_mem _ hy)
    have h2 := h x List.mem_cons_self
    show (x.map I ++ jc l).length = _
    rw [List.length_append, List.length_map, h1, h2, List.length_cons, Nat.add_mul]; omega
theorem jc_snoc (l : List (List Int)) (x : List Int) : jc (l ++ [x]) = jc l ++ x.map I := by simp [jc]
theorem jc_sh (k : Nat) (l : List (List Int)) : (jc l).map (sh1 k) = jc l := by
  unfold jc
  induction l with
  | nil => rfl
  | cons x l ih =>
    simp only [List.map_cons, List.flatten_cons, List.map_append, ih]
    congr 1
    rw [List.map_map]; rfl
/-- an own list of jobs -/
theorem jc_get {s : Nat} {xs : List (List Int)} (hx : ∀ x ∈ xs, x.length = s) {i : Nat} {x : List Int} (hi : xs[i]? = some x) {j : Nat} {n : Int} (hj : x[j]? = some n) : (jc xs)[i * s + j]? = some (I n) := by
  have hlt := getElem?_lt hi
  have hl : (jc (xs.take i)).length = i * s := by rw [jc_len (s := s) fun x h => hx x (List.mem_of_mem_take h), List.length_take, Nat.min_eq_left (by omega)]
  have e : xs = xs.take i ++ x :: xs.drop (i + 1) := by
    rw [← List.take_append_drop i xs]
    simp only [List.take_append_drop]
    conv => lhs; rw [← List.take_append_drop i xs]
    rw [List.drop_eq_getElem_cons hlt, (List.getElem?_eq_some_iff.1 hi).2]
  have e2 : jc xs = jc (xs.take i) ++ (x.map I ++ jc (xs.drop (i + 1))) := by
    conv => lhs; rw [e]
    simp [jc]
  rw [e2, List.getElem?_append_right (by omega), hl, show i * s + j - i * s = j by omega, List.getElem?_append_left (by rw [List.length_map]; exact getElem?_lt hj), List.getElem?_map, hj]; rfl
end Go.Proofs.YtjekjbkllhompaaDoor
end

section
/- Contracts: lists of numbers and of pairs that the laws compare, mark, hold. -/
set_option linter.unusedVariables false
set_option linter.unusedSimpArgs false
set_option maxRecDepth 100000
set_option maxHeartbeats 4000000
namespace Go.Proofs.YtjekjbkllhompaaDoor
open Go Go.RowKit Go.Proofs.YtjekjbkllhompaaDoor.Abs
variable {W0 : World} {σ : List Blk}
theorem fS_mk {l : List Blk} {K : List Blk → Prop} (h : K l) : fS l K := by rw [fS_eq]; exact h
theorem set_self {α : Type} {l : List α} {i : Nat} {a : α} (h : l[i]? = some a) : l.set i a = l := by
  have := (List.getElem?_eq_some_iff.1 h)
  obtain ⟨h1, h2⟩ := this
  subst h2
  exact List.set_getElem_self h1
theorem get_set {α : Type} {l : List α} {i : Nat} {a b : α} (h : l[i]? = some a) : (l.set i b)[i]? = some b := by
  rw [List.getElem?_set_self (getElem?_lt h)]
abbrev en1 (n : Int) : List Value := [.int .i64 n]
theorem lift_Ss {α : Type} {enc : α → List Value} {g : FuncId} {a b : AV} {r : AV} {xs ys : List α} {s : Nat} (hok : callOK Tryd.prog g = true) (hr : ∀ k, sh3 k r = r) (hs : Sli W0 σ s enc a xs) (hs2 : Sli W0 σ s enc b ys) (h : ∀ (W1 : World) (a' b' : AV), Sli W1 [] s enc a' xs → Sli W1 [] s enc b' ys → ∀ K : Cont, K r [] → ACall Tryd.prog W1 g [a', b'] [] K) (K : Cont) (h0 : K r σ) : ACall Tryd.prog W0 g [a, b] σ K := by
  refine ACall.frameA (K0 := fun v σ' => v = r ∧ σ' = []) hok (fun W1 ι vs hh hrr => ?_) ?_
  · obtain ⟨v1, vs', rfl, hr1, hr2⟩ := Rels.uncons hrr
    obtain ⟨v2, vs'', rfl, hr3, hr4⟩ := Rels.uncons hr2
    obtain ⟨a', ha, hs'⟩ := hs.conc hh ⟨v1, hr1⟩
    obtain ⟨b', hb, hs2'⟩ := hs2.conc hh ⟨v2, hr3⟩
    obtain rfl := hr4.nil_inv
    exact ⟨[a', b'], Rels.cons (ha _ hr1) (Rels.cons (hb _ hr3) Rels.nil), h W1 a' b' hs' hs2' _ ⟨rfl, rfl⟩⟩
  · rintro v σ' ⟨rfl, rfl⟩
    have e : σ ++ shB σ.length [] = σ := by simp [shB]
    rw [e, hr]; exact h0
theorem lift_Sp {α : Type} {enc : α → List Value} {g : FuncId} {a b : AV} {r : AV} {xs : List α} {s : Nat} (hok : callOK Tryd.prog g = true) (hb : pure3 b = true) (hr : ∀ k, sh3 k r = r) (hs : Sli W0 σ s enc a xs) (h : ∀ (W1 : World) (a' : AV), Sli W1 [] s enc a' xs → ∀ K : Cont, K r [] → ACall Tryd.prog W1 g [a', b] [] K) (K : Cont) (h0 : K r σ) : ACall Tryd.prog W0 g [a, b] σ K := by
  refine ACall.frameA (K0 := fun v σ' => v = r ∧ σ' = []) hok (fun W1 ι vs hh hrr => ?_) ?_
  · obtain ⟨v1, vs', rfl, hr1, hr2⟩ := Rels.uncons hrr
    obtain ⟨v2, vs'', rfl, hr3, hr4⟩ := Rels.uncons hr2
    obtain ⟨a', ha, hs'⟩ := hs.conc hh ⟨v1, hr1⟩
    obtain rfl := hr4.nil_inv
    exact ⟨[a', b], Rels.cons (ha _ hr1) (Rels.cons (rel3_pure hb hr3) Rels.nil), h W1 a' hs' _ ⟨rfl, rfl⟩⟩
  · rintro v σ' ⟨rfl, rfl⟩
    have e : σ ++ shB σ.length [] = σ := by simp [shB]
    rw [e, hr]; exact h0
/-! marks -/
/-- so many numbers, in order -/
def marks (k : Int) (n : Nat) : List Int := (List.range n).map fun i : Nat => k + i
theorem marks_len (k : Int) (n : Nat) : (marks k n).length = n := by simp [marks]
theorem marks_succ (k : Int) (n : Nat) : marks k (n + 1) = marks k n ++ [k + n] := by simp [marks, List.range_succ]
theorem marks_get (k : Int) {n i : Nat} (h : i < n) : (marks k n)[i]? = some (k + i) := by simp [marks, h]
/-- a block whose first cells are marked -/
def mB (B : Blk) (k : Int) (i : Nat) : Blk := { B with cells := (marks k i).map I ++ B.cells.drop i }
theorem mB_zero (B : Blk) (k : Int) : mB B k 0 = B := by simp [mB, marks]
theorem mB_step {B : Blk} {k : Int} {i : Nat} (h : i < B.cells.length) : ({ mB B k i with cells := (mB B k i).cells.take i ++ [I (k + i)] ++ (mB B k i).cells.drop (i + 1) } : Blk) = mB B k (i + 1) := by
  have hl : ((marks k i).map I).length = i := by rw [List.length_map, marks_len]
  have e1 : ((marks k i).map I ++ B.cells.drop i).take i = (marks k i).map I := by rw [List.take_left' hl]
  have e2 : ((marks k i).map I ++ B.cells.drop i).drop (i + 1) = B.cells.drop (i + 1) := by
    rw [← List.drop_drop, List.drop_left' hl, List.drop_drop]
  simp only [mB, e1, e2, marks_succ, List.map_append, List.map_cons, List.map_nil]
theorem wadd (k : Int) (i : Nat) (h : -4611686018427387904 ≤ k ∧ k + i < 4611686018427387904) : IntKind.i64.wrap (k + (i : Int) + 1) = k + ((i + 1 : Nat) : Int) := by rw [wrap_i64 _ (by omega) (by omega)]; omega
/-- a marked cell more -/
theorem st_mark {σ : List Blk} {C : List Blk → Prop} {b ver : Nat} {B : Blk} {k : Int} (hB : σ[b]? = some B) (hv : B.ver = ver) (m off : Nat) (v : Int) (ho : off = m) (hv' : v = k + m) (hm : m < B.cells.length) (h : C (σ.set b (mB B k (m + 1)))) :
    ∃ B', (σ.set b (mB B k m))[b]? = some B' ∧ B'.ver = ver ∧ [AV.lit (.int .i64 v)].length = 1 ∧ off + 1 ≤ B'.cells.length ∧ fS ((σ.set b (mB B k m)).set b { B' with cells := B'.cells.take off ++ [AV.lit (.int .i64 v)] ++ B'.cells.drop (off + 1) }) C := by
  subst ho; subst hv'
  refine ⟨mB B k off, get_set hB, hv, rfl, ?_, ?_⟩
  · show off + 1 ≤ ((marks k off).map I ++ B.cells.drop off).length
    rw [List.length_append, List.length_map, marks_len, List.length_drop]; omega
  · rw [fS_eq, List.set_set, mB_step hm]; exact h
end Go.Proofs.YtjekjbkllhompaaDoor
end

section
/- Contracts: pairs, prints: made, compared, marked. -/
set_option linter.unusedVariables false
set_option linter.unusedSimpArgs false
set_option maxRecDepth 100000
set_option maxHeartbeats 4000000
namespace Go.Proofs.YtjekjbkllhompaaDoor
open Go Go.RowKit Go.Proofs.YtjekjbkllhompaaDoor.Abs
variable {W0 : World} {σ : List Blk}
theorem c_eqIntA2 (x y : Int) (K : Cont) (h0 : K (Bo true) []) : ACall Tryd.prog W0 19 [.agg [I x, I y], .agg [I x, I y]] [] K := by
  refine by19 (Nat.le_of_ble_eq_true rfl) ?_
  repeat' ((conv => whnf); first
    | (refine And.intro rfl ?_)
    | (refine And.intro (by decide +kernel) ?_)
    | (refine And.intro trivial ?_)
    | (refine LoopR.unroll 3 ?_)
    | (refine Exists.intro _ (And.intro rfl (And.intro rfl (And.intro (Nat.le_of_ble_eq_true rfl) ?_))))
    | (refine Exists.intro _ (And.intro rfl (And.intro rfl (And.intro rfl (And.intro (Nat.le_of_ble_eq_true rfl) ?_)))))
    | (refine And.intro (Exists.intro _ (And.intro rfl rfl)) ?_)
    | (exact fun hW => absurd hW (by decide +kernel))
    | (intro hW; (try simp only [Bool.not_true, Bool.not_false, Bool.not_eq_true', Bool.not_eq_false', decide_eq_true_eq, decide_eq_false_iff_not, reduceCtorEq, Bool.true_eq_false, Bool.false_eq_true, mk_size, List.size_toArray, ByteArray.size_append, ByteArray.size_extract, List.length_cons, List.length_nil, ba_get, ba_empty, Int.toNat_natCast] at hW))
    | (refine And.intro (?_ : _ → _) (?_ : _ → _))
    | (refine FinR.drop 0 (Nat.zero_le _) (Closed.zero _) rfl ?_)
    | (refine FinR.keep ?_)
    | (refine And.intro (det3_agg rfl) ?_)
    | (refine fL_mk ?_)
    | (refine And.intro (by (try simp only [mk_size, List.size_toArray, ByteArray.size_append, ByteArray.size_extract, List.length_cons, List.length_nil]); omega) ?_)
    | (refine And.intro (by (try simp only [mk_size, List.size_toArray, ByteArray.size_append, ByteArray.size_extract, List.length_cons, List.length_nil, wrap64_eq]); omega) ?_)
    | fail)
  all_goals first | exact h0 | (exfalso; simp_all; done)
theorem d_eqIntA2 (x y : Int) (K : Cont) (h0 : K (Bo true) σ) : ACall Tryd.prog W0 19 [.agg [I x, I y], .agg [I x, I y]] σ K :=
  ACall.lift rfl (fun _ => rfl) (fun W1 K _ hK => c_eqIntA2 x y K hK) h0
theorem sli_rows {xs : List (List Int)} {b ver s : Nat} {e : TypeId} {z : Nat} {r m : Bool} {cap : Nat} (hx : ∀ x ∈ xs, x.length = s) (hb : σ[b]? = some ⟨jc xs, ver, e, z, r, m⟩) : Sli W0 σ s enI (.sl b ver 0 xs.length cap) xs :=
  .own b ver 0 _ cap _ _ hb rfl rfl fun i x hi j v hj => by
    rw [List.getElem?_map, Option.map_eq_some_iff] at hj
    obtain ⟨n, hn, rfl⟩ := hj
    rw [Nat.zero_add]
    exact jc_get hx hi hn
/-- rows of marks -/
def rowsM (k : Int) (s n : Nat) : List (List Int) := (List.range n).map fun i => marks (k + (i * s : Nat)) s
theorem rowsM_len (k : Int) (s n : Nat) : (rowsM k s n).length = n := by simp [rowsM]
theorem rowsM_get (k : Int) (s : Nat) {n i : Nat} (h : i < n) : (rowsM k s n)[i]? = some (marks (k + (i * s : Nat)) s) := by simp [rowsM, h]
/-! prints -/
abbrev Pr (a b c d e f g h i : Int) : AV := .agg [I a, I b, I c, I d, I e, I f, I g, I h, I i]
abbrev z9 : List AV := [I 0, I 0, I 0, I 0, I 0, I 0, I 0, I 0, I 0]
end Go.Proofs.YtjekjbkllhompaaDoor
end

section
/- Contracts: CommonCells. -/
set_option linter.unusedVariables false
set_option linter.unusedSimpArgs false
namespace Go.Proofs.YtjekjbkllhompaaDoor
open Go Go.RowKit Go.Proofs.YtjekjbkllhompaaDoor.Abs
variable {W0 : World} {σ : List Blk}
abbrev R64 (a b c d e f : Nat) : Prop := a < 64 ∧ b < 64 ∧ c < 64 ∧ d < 64 ∧ e < 64 ∧ f < 64
end Go.Proofs.YtjekjbkllhompaaDoor
end

section
/- Contracts: prints and their cells; lists of prints; layers. -/
set_option linter.unusedVariables false
set_option linter.unusedSimpArgs false
set_option maxRecDepth 100000
set_option maxHeartbeats 4000000
namespace Go.Proofs.YtjekjbkllhompaaDoor
open Go Go.RowKit Go.Proofs.YtjekjbkllhompaaDoor.Abs
variable {W0 : World} {σ : List Blk}
def pSet (x : List Int) : Nat := prN (setN (x.getD 1 0).toNat (x.getD 2 0).toNat (x.getD 3 0).toNat (x.getD 4 0).toNat (x.getD 5 0).toNat (x.getD 6 0).toNat) (x.getD 7 0).toNat (x.getD 8 0).toNat
def pInk (x : List Int) : Int := x.getD 0 0
/-- a valid print by its parts -/
structure PrParts (x : List Int) where
  n : Nat
  u : Nat
  v : Nat
end Go.Proofs.YtjekjbkllhompaaDoor
end

section
/- Contracts: layers of prints. -/
set_option linter.unusedVariables false
set_option linter.unusedSimpArgs false
set_option maxRecDepth 100000
set_option maxHeartbeats 4000000
namespace Go.Proofs.YtjekjbkllhompaaDoor
open Go Go.RowKit Go.Proofs.YtjekjbkllhompaaDoor.Abs
variable {W0 : World} {σ : List Blk}
theorem take_snoc {α : Type} {xs : List α} {i : Nat} {x : α} (h : xs[i]? = some x) : xs.take (i + 1) = xs.take i ++ [x] := by rw [List.take_add_one, h]; rfl
end Go.Proofs.YtjekjbkllhompaaDoor
end

section
/- Contracts: places of layers of which something is so. -/
set_option linter.unusedVariables false
set_option linter.unusedSimpArgs false
set_option maxRecDepth 100000
set_option maxHeartbeats 4000000
namespace Go.Proofs.YtjekjbkllhompaaDoor
open Go Go.RowKit Go.Proofs.YtjekjbkllhompaaDoor.Abs
variable {W0 : World} {σ : List Blk}
/-- the places at which something is so, rising; and those from the end on, falling -/
def selN (q : Nat → Bool) : Nat → List Int
  | 0 => []
  | n + 1 => selN q n ++ if q n then [(n : Int)] else []
end Go.Proofs.YtjekjbkllhompaaDoor
end

section
/- Contracts: hidden and whole prints. -/
set_option linter.unusedVariables false
set_option linter.unusedSimpArgs false
set_option maxRecDepth 100000
set_option maxHeartbeats 4000000
namespace Go.Proofs.YtjekjbkllhompaaDoor
open Go Go.RowKit Go.Proofs.YtjekjbkllhompaaDoor.Abs
variable {W0 : World} {σ : List Blk}
abbrev outB (l : List Int) : Blk := ⟨l.map I, l.length, 3, 1, true, true⟩
abbrev nilA : AV := .lit (.slice none 0 0)
/-! the reference: what is seen of prints -/
def shR (n : Nat) : List Int := [(rowN n 0 : Nat), (rowN n 1 : Nat), (rowN n 2 : Nat), (rowN n 3 : Nat), (rowN n 4 : Nat), (rowN n 5 : Nat)]
abbrev z6 : List Int := [0, 0, 0, 0, 0, 0]
end Go.Proofs.YtjekjbkllhompaaDoor
end

section
/- Contracts: prints that overlap. -/
set_option linter.unusedVariables false
set_option linter.unusedSimpArgs false
set_option maxRecDepth 100000
set_option maxHeartbeats 4000000
namespace Go.Proofs.YtjekjbkllhompaaDoor
open Go Go.RowKit Go.Proofs.YtjekjbkllhompaaDoor.Abs
variable {W0 : World} {σ : List Blk}
/-- pairs of places -/
def inn (q : Nat → Nat → Bool) (i : Nat) : Nat → List (List Int)
  | 0 => []
  | m + 1 => inn q i m ++ if q i (i + 1 + m) then [[(i : Int), ((i + 1 + m : Nat) : Int)]] else []
abbrev prsB (l : List (List Int)) : Blk := ⟨jc l, l.length, 30, 2, true, true⟩
end Go.Proofs.YtjekjbkllhompaaDoor
end

section
/- Contracts: pictures. -/
set_option linter.unusedVariables false
set_option linter.unusedSimpArgs false
set_option maxRecDepth 100000
set_option maxHeartbeats 4000000
namespace Go.Proofs.YtjekjbkllhompaaDoor
open Go Go.RowKit Go.Proofs.YtjekjbkllhompaaDoor.Abs
variable {W0 : World} {σ : List Blk}
abbrev Pi (q : List Int) : AV := .agg (q.map I)
abbrev z36 : List Int := List.replicate 36 0
/-! prints made -/
def madeK (q : List Int) (n : Nat) (ink : Int) : Nat → List Int
  | 0 => q
  | k + 1 => if n.testBit k then (madeK q n ink k).set k ink else madeK q n ink k
end Go.Proofs.YtjekjbkllhompaaDoor
end

section
/- Contracts: orders of prints: lists of numbers. -/
set_option linter.unusedVariables false
set_option linter.unusedSimpArgs false
set_option maxRecDepth 100000
set_option maxHeartbeats 4000000
namespace Go.Proofs.YtjekjbkllhompaaDoor
open Go Go.RowKit Go.Proofs.YtjekjbkllhompaaDoor.Abs
variable {W0 : World} {σ : List Blk}
/-- a slice that came in, nil or not -/
theorem sli_form {α : Type} {s : Nat} {enc : α → List Value} {a : AV} {xs : List α} (h : Sli W0 [] s enc a xs) : ∃ o n cap, a = .lit (.slice o n cap) ∧ n = xs.length ∧ n ≤ cap ∧ cap ≤ maxLen ∧ ∀ (i : Nat) (x : α), xs[i]? = some x → ∃ ad, o = some ad ∧ ad.block < W0.heap.size ∧ ∀ i x, xs[i]? = some x → ∀ j v, (enc x)[j]? = some v → W0.cell? ((ad.add (i * s)).add j) = some v ∧ v.oneCell' = true := by
  cases h with
  | nil => exact ⟨none, 0, 0, rfl, rfl, Nat.le_refl _, Nat.zero_le _, fun i x h => by simp at h⟩
  | inn ad n cap xs hn hc hm hb hx => exact ⟨some ad, n, cap, rfl, hn, hc, hm, fun i x h => ⟨ad, rfl, hb, hx⟩⟩
  | own b ver off n cap B xs hB => simp at hB
end Go.Proofs.YtjekjbkllhompaaDoor
end

section
/- Contracts: pictures of prints in an order. -/
set_option linter.unusedVariables false
set_option linter.unusedSimpArgs false
set_option maxRecDepth 100000
set_option maxHeartbeats 4000000
namespace Go.Proofs.YtjekjbkllhompaaDoor
open Go Go.RowKit Go.Proofs.YtjekjbkllhompaaDoor.Abs
variable {W0 : World} {σ : List Blk}
def picY (ys : List (List Int)) : List Int := ys.foldl (fun P x => madeK P (pSet x) (pInk x) 36) z36
def ordL (xs : List (List Int)) (ord : List Int) : List (List Int) := ord.map fun k => xs.getD k.toNat []
end Go.Proofs.YtjekjbkllhompaaDoor
end

section
/- Contracts: lists in order; blocks that grow. -/
set_option linter.unusedVariables false
set_option linter.unusedSimpArgs false
set_option maxRecDepth 100000
set_option maxHeartbeats 4000000
namespace Go.Proofs.YtjekjbkllhompaaDoor
open Go Go.RowKit Go.Proofs.YtjekjbkllhompaaDoor.Abs
variable {W0 : World} {σ : List Blk}
theorem getl {σ : List Blk} {B : Blk} : (σ ++ [B])[σ.length]? = some B := by simp
theorem set_last {σ : List Blk} {B B' : Blk} : (σ ++ [B]).set σ.length B' = σ ++ [B'] := by
  rw [List.set_append_right _ _ (Nat.le_refl _), Nat.sub_self]; rfl
theorem getx1 {σ τ : List Blk} {b : Nat} {B : Blk} (h : σ[b]? = some B) : (σ ++ τ)[b]? = some B := by
  rw [List.getElem?_append_left (getElem?_lt h)]; exact h
/-! lists before others -/
def lexLt : List Int → List Int → Bool
  | [], [] => false
  | [], _ :: _ => true
  | _ :: _, [] => false
  | x :: a, y :: b => if x = y then lexLt a b else decide (x < y)
def sooner (a b : List Int) : Bool := if a.length = b.length then lexLt a b else decide (a.length < b.length)
/-! the first one of the shortest -/
section
variable (M : Nat → Bool) (s : Nat → List Int) (pl : List Int)
def bestS : Nat → List Int
  | 0 => pl
  | c + 1 => if M c && sooner (s c) (bestS c) then s c else bestS c
def takeI (o : Option (List Int)) (x : List Int) : Bool := match o with
  | none => true
  | some b => sooner x b
def bestI : Nat → Option (List Int)
  | 0 => none
  | c + 1 => if M c && takeI (bestI c) (s c) then some (s c) else bestI c
end
abbrev plainL (n : Nat) : List Int := selN (fun _ => true) n
end Go.Proofs.YtjekjbkllhompaaDoor
end

section
/- Contracts: the fewest prints, by the reference. -/
set_option linter.unusedVariables false
set_option linter.unusedSimpArgs false
set_option maxRecDepth 100000
set_option maxHeartbeats 4000000
namespace Go.Proofs.YtjekjbkllhompaaDoor
open Go Go.RowKit Go.Proofs.YtjekjbkllhompaaDoor.Abs
variable {W0 : World} {σ : List Blk}
/-- which lists give the same picture -/
def fewM (xs : List (List Int)) (c : Nat) : Bool := decide (picY (ordL xs (selN (Nat.testBit c) xs.length)) = picY xs)
abbrev fewS (xs : List (List Int)) (c : Nat) : List Int := bestS (fewM xs) (fun c => selN (Nat.testBit c) xs.length) (plainL xs.length) c
structure FX where
  c : Nat
  L : List Int
  b : Nat
  cp : Nat
  σ : List Blk
end Go.Proofs.YtjekjbkllhompaaDoor
end

section
/- Contracts: the fewest prints, by the program. -/
set_option linter.unusedVariables false
set_option linter.unusedSimpArgs false
set_option maxRecDepth 100000
set_option maxHeartbeats 4000000
namespace Go.Proofs.YtjekjbkllhompaaDoor
open Go Go.RowKit Go.Proofs.YtjekjbkllhompaaDoor.Abs
variable {W0 : World} {σ : List Blk}
structure FY where
  c : Nat
  o : Option (List Int × Nat × Nat)
  σ : List Blk
abbrev fewI (xs : List (List Int)) (c : Nat) : Option (List Int) := bestI (fewM xs) (fun c => selN (Nat.testBit c) xs.length) c
end Go.Proofs.YtjekjbkllhompaaDoor
end

section
/- Contracts: the law of the fewest prints. -/
set_option linter.unusedVariables false
set_option linter.unusedSimpArgs false
set_option maxRecDepth 100000
set_option maxHeartbeats 4000000
namespace Go.Proofs.YtjekjbkllhompaaDoor
open Go Go.RowKit Go.Proofs.YtjekjbkllhompaaDoor.Abs
variable {W0 : World} {σ : List Blk}
theorem get_ne {σ : List Blk} {b i : Nat} {B X : Blk} (h : σ[b]? = some B) (hne : i ≠ b) : (σ.set i X)[b]? = some B := by rw [List.getElem?_set_ne hne]; exact h
/-- lists of numbers that lie among new blocks -/
structure NewL (l : List Int) where
  b : Nat
  cap : Nat
  τ : List Blk
  h : τ[b]? = some (outB l)
end Go.Proofs.YtjekjbkllhompaaDoor
end

section
/- Contracts: lists of sheets and of steps that the laws make and compare. -/
set_option linter.unusedVariables false
set_option linter.unusedSimpArgs false
set_option maxRecDepth 100000
set_option maxHeartbeats 4000000
namespace Go.Proofs.YtjekjbkllhompaaDoor
open Go Go.RowKit Go.Proofs.YtjekjbkllhompaaDoor.Abs
variable {W0 : World} {σ : List Blk}
abbrev Ste (k s x y : Int) : AV := .agg [I k, I s, I x, I y]
theorem c_eqStep (k s x y : Int) (K : Cont) (h0 : K (Bo true) []) : ACall Tryd.prog W0 14 [Ste k s x y, Ste k s x y] [] K := by
  refine by14 (Nat.le_of_ble_eq_true rfl) ?_
  repeat' ((conv => whnf); first
    | (refine And.intro rfl ?_)
    | (refine And.intro (by decide +kernel) ?_)
    | (refine And.intro trivial ?_)
    | (refine d_eqIntA2 (h0 := ?_) ..)
    | (refine Exists.intro _ (And.intro (fun τ => callW_fn (d_eqIntA2 (h0 := And.intro rfl rfl) ..)) ?_))
    | (refine Exists.intro _ (And.intro (callW_fn (d_eqIntA2 (h0 := And.intro rfl rfl) ..)) (And.intro trivial ?_)))
    | (refine Exists.intro _ (And.intro (callW_fn (d_eqIntA2 (h0 := And.intro rfl rfl) ..)) ?_))
    | (refine Exists.intro _ (And.intro (fun τ _ => callW_fn (d_eqIntA2 (h0 := And.intro rfl rfl) ..)) ?_))
    | (refine Exists.intro _ (And.intro rfl (And.intro rfl (And.intro (Nat.le_of_ble_eq_true rfl) ?_))))
    | (refine Exists.intro _ (And.intro rfl (And.intro rfl (And.intro rfl (And.intro (Nat.le_of_ble_eq_true rfl) ?_)))))
    | (refine And.intro (Exists.intro _ (And.intro rfl rfl)) ?_)
    | (exact fun hW => absurd hW (by decide +kernel))
    | (intro hW; (try simp only [Bool.not_true, Bool.not_false, Bool.not_eq_true', Bool.not_eq_false', decide_eq_true_eq, decide_eq_false_iff_not, reduceCtorEq, Bool.true_eq_false, Bool.false_eq_true, mk_size, List.size_toArray, ByteArray.size_append, ByteArray.size_extract, List.length_cons, List.length_nil, ba_get, ba_empty, Int.toNat_natCast] at hW))
    | (refine And.intro (?_ : _ → _) (?_ : _ → _))
    | (refine FinR.drop 0 (Nat.zero_le _) (Closed.zero _) rfl ?_)
    | (refine FinR.keep ?_)
    | (refine And.intro (det3_agg rfl) ?_)
    | (refine fL_mk ?_)
    | (refine And.intro (by (try simp only [mk_size, List.size_toArray, ByteArray.size_append, ByteArray.size_extract, List.length_cons, List.length_nil]); omega) ?_)
    | (refine And.intro (by (try simp only [mk_size, List.size_toArray, ByteArray.size_append, ByteArray.size_extract, List.length_cons, List.length_nil, wrap64_eq]); omega) ?_)
    | fail)
  all_goals first | exact h0 | (exfalso; simp_all; done)
theorem d_eqStep (k s x y : Int) (K : Cont) (h0 : K (Bo true) σ) : ACall Tryd.prog W0 14 [Ste k s x y, Ste k s x y] σ K :=
  ACall.lift rfl (fun _ => rfl) (fun W1 K _ hK => c_eqStep k s x y K hK) h0
theorem row4x {xs : List (List Int)} (hx : ∀ x ∈ xs, x.length = 4) {n : Nat} (hlt : n < xs.length) : ∃ c0 c1 c2 c3, xs[n]? = some [c0, c1, c2, c3] := by
  have hxi : xs[n]? = some xs[n] := List.getElem?_eq_getElem hlt
  have := hx _ (List.mem_of_getElem? hxi)
  rw [hxi]
  match hh : xs[n], this with
  | [c0, c1, c2, c3], _ => exact ⟨c0, c1, c2, c3, rfl⟩
theorem c_eqStepS (a b : AV) (xs : List (List Int)) (ha : Sli W0 [] 4 enI a xs) (hb' : Sli W0 [] 4 enI b xs) (hx : ∀ x ∈ xs, x.length = 4) (hl : xs.length ≤ 1048576) (K : Cont) (h0 : K (Bo true) []) : ACall Tryd.prog W0 6 [a, b] [] K := by
  refine by6 (Nat.le_of_ble_eq_true rfl) ?_
  obtain ⟨o, n, cap, rfl, hn, hc, hm, hf⟩ := sli_form ha
  obtain ⟨o2, n2, cap2, rfl, hn2, hc2, hm2, hf2⟩ := sli_form hb'
  subst hn
  have hnl : xs.length = n2 := hn2.symm
  subst hn2
  repeat' ((conv => whnf); first
    | (refine And.intro rfl ?_)
    | (refine And.intro (by decide +kernel) ?_)
    | (refine And.intro trivial ?_)
    | (refine Exists.intro _ (And.intro rfl (And.intro rfl (And.intro (Nat.le_of_ble_eq_true rfl) ?_))))
    | (refine Exists.intro _ (And.intro rfl (And.intro rfl (And.intro rfl (And.intro (Nat.le_of_ble_eq_true rfl) ?_)))))
    | (refine And.intro (Exists.intro _ (And.intro rfl rfl)) ?_)
    | (exact fun hW => absurd hW (by decide +kernel))
    | (intro hW; (try simp only [Bool.not_true, Bool.not_false, Bool.not_eq_true', Bool.not_eq_false', decide_eq_true_eq, decide_eq_false_iff_not, reduceCtorEq, Bool.true_eq_false, Bool.false_eq_true, mk_size, List.size_toArray, ByteArray.size_append, ByteArray.size_extract, List.length_cons, List.length_nil, ba_get, ba_empty, Int.toNat_natCast] at hW))
    | (refine And.intro (?_ : _ → _) (?_ : _ → _))
    | (refine FinR.drop 0 (Nat.zero_le _) (Closed.zero _) rfl ?_)
    | (refine FinR.keep ?_)
    | (refine And.intro (det3_agg rfl) ?_)
    | (refine fL_mk ?_)
    | (refine And.intro (by (try simp only [mk_size, List.size_toArray, ByteArray.size_append, ByteArray.size_extract, List.length_cons, List.length_nil]); omega) ?_)
    | (refine And.intro (by (try simp only [mk_size, List.size_toArray, ByteArray.size_append, ByteArray.size_extract, List.length_cons, List.length_nil, wrap64_eq]); omega) ?_)
    | fail)
  all_goals first | (exfalso; omega) | (exfalso; simp_all; done) | skip
  refine LoopR.live (fun i : Nat => [(0, .lit (.slice o xs.length cap)), (1, .lit (.slice o2 xs.length cap2)), (5, I i)]) (fun i => []) (fun i => i ≤ xs.length) (fun i => xs.length - i) 0 ⟨rfl, rfl, rfl, trivial⟩ (.keep rfl) (Nat.zero_le _) ?_
  intro i hi
  by_cases hlt : i < xs.length
  · obtain ⟨c0, c1, c2, c3, hxi⟩ := row4x hx hlt
    obtain ⟨ad, rfl, hb, hxx⟩ := hf i _ hxi
    obtain ⟨ad2, rfl, hb2, hxx2⟩ := hf2 i _ hxi
    have hld := fun C h => ldIn (W0 := W0) (s := 4) (enc := enI) hb hxx (k := i) hxi rfl (C := C) h
    have hld2 := fun C h => ldIn (W0 := W0) (s := 4) (enc := enI) hb2 hxx2 (k := i) hxi rfl (C := C) h
    repeat' ((conv => whnf); first
      | (refine And.intro rfl ?_)
      | (refine And.intro (by decide +kernel) ?_)
      | (refine And.intro trivial ?_)
      | (refine hld _ ?_)
      | (refine hld2 _ ?_)
      | (refine d_eqStep (h0 := ?_) ..)
      | (refine Exists.intro _ (And.intro (fun τ => callW_fn (d_eqStep (h0 := And.intro rfl rfl) ..)) ?_))
      | (refine Exists.intro _ (And.intro (callW_fn (d_eqStep (h0 := And.intro rfl rfl) ..)) (And.intro trivial ?_)))
      | (refine Exists.intro _ (And.intro (callW_fn (d_eqStep (h0 := And.intro rfl rfl) ..)) ?_))
      | (refine Exists.intro _ (And.intro (fun τ _ => callW_fn (d_eqStep (h0 := And.intro rfl rfl) ..)) ?_))
      | (refine And.intro rfl (hld _ ?_))
      | (refine And.intro rfl (hld2 _ ?_))
      | (refine Exists.intro _ (And.intro rfl (And.intro rfl (And.intro (Nat.le_of_ble_eq_true rfl) ?_))))
      | (refine Exists.intro _ (And.intro rfl (And.intro rfl (And.intro rfl (And.intro (Nat.le_of_ble_eq_true rfl) ?_)))))
      | (refine And.intro (Exists.intro _ (And.intro rfl rfl)) ?_)
      | (exact fun hW => absurd hW (by decide +kernel))
      | (intro hW; (try simp only [Bool.not_true, Bool.not_false, Bool.not_eq_true', Bool.not_eq_false', decide_eq_true_eq, decide_eq_false_iff_not, reduceCtorEq, Bool.true_eq_false, Bool.false_eq_true, mk_size, List.size_toArray, ByteArray.size_append, ByteArray.size_extract, List.length_cons, List.length_nil, ba_get, ba_empty, Int.toNat_natCast] at hW))
      | (refine And.intro (?_ : _ → _) (?_ : _ → _))
      | (refine FinR.drop 0 (Nat.zero_le _) (Closed.zero _) rfl ?_)
      | (refine FinR.keep ?_)
      | (refine And.intro (det3_agg rfl) ?_)
      | (refine fL_mk ?_)
      | (refine And.intro (by (try simp only [mk_size, List.size_toArray, ByteArray.size_append, ByteArray.size_extract, List.length_cons, List.length_nil]); omega) ?_)
      | (refine And.intro (by (try simp only [mk_size, List.size_toArray, ByteArray.size_append, ByteArray.size_extract, List.length_cons, List.length_nil, wrap64_eq]); omega) ?_)
      | fail)
    all_goals first | (exfalso; omega) | (exfalso; simp_all; done) | skip
    exact Again.go (i + 1) ⟨rfl, rfl, slI' (wsucc' i (by omega)), trivial⟩ (.keep rfl) (by omega) (by omega)
  · obtain rfl : i = xs.length := by omega
    repeat' ((conv => whnf); first
      | (refine And.intro rfl ?_)
      | (refine And.intro (by decide +kernel) ?_)
      | (refine And.intro trivial ?_)
      | (refine Exists.intro _ (And.intro rfl (And.intro rfl (And.intro (Nat.le_of_ble_eq_true rfl) ?_))))
      | (refine Exists.intro _ (And.intro rfl (And.intro rfl (And.intro rfl (And.intro (Nat.le_of_ble_eq_true rfl) ?_)))))
      | (refine And.intro (Exists.intro _ (And.intro rfl rfl)) ?_)
      | (exact fun hW => absurd hW (by decide +kernel))
      | (intro hW; (try simp only [Bool.not_true, Bool.not_false, Bool.not_eq_true', Bool.not_eq_false', decide_eq_true_eq, decide_eq_false_iff_not, reduceCtorEq, Bool.true_eq_false, Bool.false_eq_true, mk_size, List.size_toArray, ByteArray.size_append, ByteArray.size_extract, List.length_cons, List.length_nil, ba_get, ba_empty, Int.toNat_natCast] at hW))
      | (refine And.intro (?_ : _ → _) (?_ : _ → _))
      | (refine FinR.drop 0 (Nat.zero_le _) (Closed.zero _) rfl ?_)
      | (refine FinR.keep ?_)
      | (refine And.intro (det3_agg rfl) ?_)
      | (refine fL_mk ?_)
      | (refine And.intro (by (try simp only [mk_size, List.size_toArray, ByteArray.size_append, ByteArray.size_extract, List.length_cons, List.length_nil]); omega) ?_)
      | (refine And.intro (by (try simp only [mk_size, List.size_toArray, ByteArray.size_append, ByteArray.size_extract, List.length_cons, List.length_nil, wrap64_eq]); omega) ?_)
      | fail)
    all_goals first | (exfalso; omega) | exact h0
theorem d_eqStepS (a b : AV) (xs : List (List Int)) (ha : Sli W0 σ 4 enI a xs) (hb' : Sli W0 σ 4 enI b xs) (hx : ∀ x ∈ xs, x.length = 4) (hl : xs.length ≤ 1048576) (K : Cont) (h0 : K (Bo true) σ) : ACall Tryd.prog W0 6 [a, b] σ K :=
  lift_Ss (by kernel_rfl) (fun _ => rfl) ha hb' (fun W1 a' b' h h' K hK => c_eqStepS a' b' xs h h' hx hl K hK) K h0
end Go.Proofs.YtjekjbkllhompaaDoor
end

section
/- Contracts: plans as values; which are valid. -/
set_option linter.unusedVariables false
set_option linter.unusedSimpArgs false
set_option maxRecDepth 100000
set_option maxHeartbeats 4000000
namespace Go.Proofs.YtjekjbkllhompaaDoor
open Go Go.RowKit Go.Proofs.YtjekjbkllhompaaDoor.Abs
variable {W0 : World} {σ : List Blk}
abbrev PlA (a b c d e f : Int) (s1 s2 : AV) : AV := .agg [I a, I b, I c, I d, I e, I f, s1, s2]
/-! steps and plans that are valid -/
def stOk (m : Nat) (r : List Int) : Bool := inB (r.getD 0 0) 1 3 && inB (r.getD 1 0) 0 ((m : Int) - 1) && cellB (r.getD 2 0) (r.getD 3 0)
theorem stOk_eq (m : Nat) (k s x y : Int) : stOk m [k, s, x, y] = (inB k 1 3 && inB s 0 ((m : Int) - 1) && cellB x y) := rfl
theorem c_l11Step (k s x y : Int) (m : Nat) (hm : m ≤ 1048576) (K : Cont) (h0 : K (Bo (stOk m [k, s, x, y])) []) : ACall Tryd.prog W0 15 [Ste k s x y, I m] [] K := by
  rw [stOk_eq] at h0
  have ew : IntKind.i64.wrap ((m : Int) - 1) = (m : Int) - 1 := wrap_i64 _ (by omega) (by omega)
  refine by15 (Nat.le_of_ble_eq_true rfl) ?_
  repeat' ((conv => whnf); first
    | (refine And.intro rfl ?_)
    | (refine And.intro (by decide +kernel) ?_)
    | (refine And.intro trivial ?_)
    | (refine d_l1In (h0 := ?_) ..)
    | (refine Exists.intro _ (And.intro (fun τ => callW_fn (d_l1In (h0 := And.intro rfl rfl) ..)) ?_))
    | (refine Exists.intro _ (And.intro (callW_fn (d_l1In (h0 := And.intro rfl rfl) ..)) (And.intro trivial ?_)))
    | (refine Exists.intro _ (And.intro (callW_fn (d_l1In (h0 := And.intro rfl rfl) ..)) ?_))
    | (refine Exists.intro _ (And.intro (fun τ _ => callW_fn (d_l1In (h0 := And.intro rfl rfl) ..)) ?_))
    | (refine d_l2Cell (h0 := ?_) ..)
    | (refine Exists.intro _ (And.intro (fun τ => callW_fn (d_l2Cell (h0 := And.intro rfl rfl) ..)) ?_))
    | (refine Exists.intro _ (And.intro (callW_fn (d_l2Cell (h0 := And.intro rfl rfl) ..)) (And.intro trivial ?_)))
    | (refine Exists.intro _ (And.intro (callW_fn (d_l2Cell (h0 := And.intro rfl rfl) ..)) ?_))
    | (refine Exists.intro _ (And.intro (fun τ _ => callW_fn (d_l2Cell (h0 := And.intro rfl rfl) ..)) ?_))
    | (refine Exists.intro _ (And.intro rfl (And.intro rfl (And.intro (Nat.le_of_ble_eq_true rfl) ?_))))
    | (refine Exists.intro _ (And.intro rfl (And.intro rfl (And.intro rfl (And.intro (Nat.le_of_ble_eq_true rfl) ?_)))))
    | (refine And.intro (Exists.intro _ (And.intro rfl rfl)) ?_)
    | (exact fun hW => absurd hW (by decide +kernel))
    | (intro hW; (try simp only [Bool.not_true, Bool.not_false, Bool.not_eq_true', Bool.not_eq_false', decide_eq_true_eq, decide_eq_false_iff_not, reduceCtorEq, Bool.true_eq_false, Bool.false_eq_true, mk_size, List.size_toArray, ByteArray.size_append, ByteArray.size_extract, List.length_cons, List.length_nil, ba_get, ba_empty, Int.toNat_natCast] at hW))
    | (refine And.intro (?_ : _ → _) (?_ : _ → _))
    | (refine FinR.drop 0 (Nat.zero_le _) (Closed.zero _) rfl ?_)
    | (refine FinR.keep ?_)
    | (refine And.intro (det3_agg rfl) ?_)
    | (refine fL_mk ?_)
    | (refine And.intro (by (try simp only [mk_size, List.size_toArray, ByteArray.size_append, ByteArray.size_extract, List.length_cons, List.length_nil]); omega) ?_)
    | (refine And.intro (by (try simp only [mk_size, List.size_toArray, ByteArray.size_append, ByteArray.size_extract, List.length_cons, List.length_nil, wrap64_eq]); omega) ?_)
    | fail)
  all_goals (refine kB' h0 ?_; clear h0; simp_all)
theorem d_l11Step (k s x y : Int) (m : Nat) (hm : m ≤ 1048576) (K : Cont) (h0 : K (Bo (stOk m [k, s, x, y])) σ) : ACall Tryd.prog W0 15 [Ste k s x y, I m] σ K :=
  ACall.lift rfl (fun _ => rfl) (fun W1 K _ hK => c_l11Step k s x y m hm K hK) h0
theorem c_isStep (k s x y : Int) (m : Nat) (hm : m ≤ 1048576) (K : Cont) (h0 : K (Bo (stOk m [k, s, x, y])) []) : ACall Tryd.prog W0 13 [Ste k s x y, I m] [] K := by
  rw [stOk_eq] at h0
  refine by13 (Nat.le_of_ble_eq_true rfl) ?_
  repeat' ((conv => whnf); first
    | (refine And.intro rfl ?_)
    | (refine And.intro (by decide +kernel) ?_)
    | (refine And.intro trivial ?_)
    | (refine d_isCell (h0 := ?_) ..)
    | (refine Exists.intro _ (And.intro (fun τ => callW_fn (d_isCell (h0 := And.intro rfl rfl) ..)) ?_))
    | (refine Exists.intro _ (And.intro (callW_fn (d_isCell (h0 := And.intro rfl rfl) ..)) (And.intro trivial ?_)))
    | (refine Exists.intro _ (And.intro (callW_fn (d_isCell (h0 := And.intro rfl rfl) ..)) ?_))
    | (refine Exists.intro _ (And.intro (fun τ _ => callW_fn (d_isCell (h0 := And.intro rfl rfl) ..)) ?_))
    | (refine Exists.intro _ (And.intro rfl (And.intro rfl (And.intro (Nat.le_of_ble_eq_true rfl) ?_))))
    | (refine Exists.intro _ (And.intro rfl (And.intro rfl (And.intro rfl (And.intro (Nat.le_of_ble_eq_true rfl) ?_)))))
    | (refine And.intro (Exists.intro _ (And.intro rfl rfl)) ?_)
    | (exact fun hW => absurd hW (by decide +kernel))
    | (intro hW; (try simp only [Bool.not_true, Bool.not_false, Bool.not_eq_true', Bool.not_eq_false', decide_eq_true_eq, decide_eq_false_iff_not, reduceCtorEq, Bool.true_eq_false, Bool.false_eq_true, mk_size, List.size_toArray, ByteArray.size_append, ByteArray.size_extract, List.length_cons, List.length_nil, ba_get, ba_empty, Int.toNat_natCast] at hW))
    | (refine And.intro (?_ : _ → _) (?_ : _ → _))
    | (refine FinR.drop 0 (Nat.zero_le _) (Closed.zero _) rfl ?_)
    | (refine FinR.keep ?_)
    | (refine And.intro (det3_agg rfl) ?_)
    | (refine fL_mk ?_)
    | (refine And.intro (by (try simp only [mk_size, List.size_toArray, ByteArray.size_append, ByteArray.size_extract, List.length_cons, List.length_nil]); omega) ?_)
    | (refine And.intro (by (try simp only [mk_size, List.size_toArray, ByteArray.size_append, ByteArray.size_extract, List.length_cons, List.length_nil, wrap64_eq]); omega) ?_)
    | fail)
  all_goals (refine kB' h0 ?_; clear h0; simp_all [inB] <;> intros <;> omega)
theorem d_isStep (k s x y : Int) (m : Nat) (hm : m ≤ 1048576) (K : Cont) (h0 : K (Bo (stOk m [k, s, x, y])) σ) : ACall Tryd.prog W0 13 [Ste k s x y, I m] σ K :=
  ACall.lift rfl (fun _ => rfl) (fun W1 K _ hK => c_isStep k s x y m hm K hK) h0
end Go.Proofs.YtjekjbkllhompaaDoor
end

section
/- Contracts: plans by sets: the program's planOf. -/
set_option linter.unusedVariables false
set_option linter.unusedSimpArgs false
set_option maxRecDepth 100000
set_option maxHeartbeats 4000000
namespace Go.Proofs.YtjekjbkllhompaaDoor
open Go Go.RowKit Go.Proofs.YtjekjbkllhompaaDoor.Abs
variable {W0 : World} {σ : List Blk}
abbrev nilP : AV := .lit (.pointer none)
structure PX where
  i : Nat
  σ : List Blk
end Go.Proofs.YtjekjbkllhompaaDoor
end

section
/- Contracts: the program's planOf; IsPlan; plans that the laws make and compare. -/
set_option linter.unusedVariables false
set_option linter.unusedSimpArgs false
set_option maxRecDepth 100000
set_option maxHeartbeats 4000000
namespace Go.Proofs.YtjekjbkllhompaaDoor
open Go Go.RowKit Go.Proofs.YtjekjbkllhompaaDoor.Abs
variable {W0 : World} {σ : List Blk}
/-! the laws' plans -/
abbrev stSB (ys : List (List Int)) : Blk := ⟨jc ys, 0, 32, 4, true, true⟩
end Go.Proofs.YtjekjbkllhompaaDoor
end

section
/- Contracts: plans that run. -/
set_option linter.unusedVariables false
set_option linter.unusedSimpArgs false
set_option maxRecDepth 100000
set_option maxHeartbeats 4000000
namespace Go.Proofs.YtjekjbkllhompaaDoor
open Go Go.RowKit Go.Proofs.YtjekjbkllhompaaDoor.Abs
variable {W0 : World} {σ : List Blk}
/-- steps that are valid -/
def FsOk (fs : List (Nat × Nat)) : Prop := ∀ s ∈ fs, (1 ≤ s.1 ∧ s.1 ≤ 3) ∧ s.2 < 2 ^ 36
theorem FsOk.take {fs : List (Nat × Nat)} (h : FsOk fs) (i : Nat) : FsOk (fs.take i) := fun s hs => h s (List.mem_of_mem_take hs)
/-! the program -/
end Go.Proofs.YtjekjbkllhompaaDoor
end

section
/- Contracts: plans marked and held. -/
set_option linter.unusedVariables false
set_option linter.unusedSimpArgs false
set_option maxRecDepth 100000
set_option maxHeartbeats 4000000
namespace Go.Proofs.YtjekjbkllhompaaDoor
open Go Go.RowKit Go.Proofs.YtjekjbkllhompaaDoor.Abs
variable {W0 : World} {σ : List Blk}
theorem d_markStepS (b ver n cap : Nat) (B : Blk) (hB : σ[b]? = some B) (hv : B.ver = ver) (hn : n * 4 ≤ B.cells.length) (hn2 : n ≤ 1048576) (k : Int) (hk : 0 ≤ k ∧ k ≤ 16777216) (K : Cont) (h0 : K (I (k + (n * 4 : Nat))) (σ.set b (mB B k (n * 4)))) : ACall Tryd.prog W0 7 [.sl b ver 0 n cap, I k] σ K := by
  refine by7 (Nat.le_of_ble_eq_true rfl) ?_
  repeat' ((conv => whnf); first
    | (refine And.intro rfl ?_)
    | (refine And.intro (by decide +kernel) ?_)
    | (refine And.intro trivial ?_)
    | (refine Exists.intro _ (And.intro rfl (And.intro rfl (And.intro (Nat.le_of_ble_eq_true rfl) ?_))))
    | (refine Exists.intro _ (And.intro rfl (And.intro rfl (And.intro rfl (And.intro (Nat.le_of_ble_eq_true rfl) ?_)))))
    | (refine And.intro (Exists.intro _ (And.intro rfl rfl)) ?_)
    | (exact fun hW => absurd hW (by decide +kernel))
    | (intro hW; (try simp only [Bool.not_true, Bool.not_false, Bool.not_eq_true', Bool.not_eq_false', decide_eq_true_eq, decide_eq_false_iff_not, reduceCtorEq, Bool.true_eq_false, Bool.false_eq_true, mk_size, List.size_toArray, ByteArray.size_append, ByteArray.size_extract, List.length_cons, List.length_nil, ba_get, ba_empty, Int.toNat_natCast] at hW))
    | (refine And.intro (?_ : _ → _) (?_ : _ → _))
    | (refine FinR.drop 0 (Nat.zero_le _) (Closed.zero _) rfl ?_)
    | (refine FinR.keep ?_)
    | (refine And.intro (det3_agg rfl) ?_)
    | (refine fL_mk ?_)
    | (refine And.intro (by (try simp only [mk_size, List.size_toArray, ByteArray.size_append, ByteArray.size_extract, List.length_cons, List.length_nil]); omega) ?_)
    | (refine And.intro (by (try simp only [mk_size, List.size_toArray, ByteArray.size_append, ByteArray.size_extract, List.length_cons, List.length_nil, wrap64_eq]); omega) ?_)
    | fail)
  refine LoopR.live (fun i : Nat => [(0, .sl b ver 0 n cap), (1, I (k + (i * 4 : Nat))), (5, I i)]) (fun i => σ.set b (mB B k (i * 4))) (fun i => i ≤ n) (fun i => n - i) 0 ⟨rfl, slI' (by omega), rfl, trivial⟩ (.keep (by show σ.set b (mB B k (0 * 4)) = σ; rw [Nat.zero_mul, mB_zero, set_self hB])) (Nat.zero_le _) ?_
  intro i hi
  have hcur : ∃ B', (σ.set b (mB B k (i * 4)))[b]? = some B' ∧ B'.ver = ver := ⟨_, get_set hB, hv⟩
  have hcur1 : ∃ B', (σ.set b (mB B k (i * 4 + 1)))[b]? = some B' ∧ B'.ver = ver := ⟨_, get_set hB, hv⟩
  by_cases hlt : i < n
  · have ew : IntKind.i64.wrap (k + (i * 4 : Nat) + 1) = k + (i * 4 + 1 : Nat) := by rw [wrap_i64 _ (by omega) (by omega)]; omega
    repeat' ((conv => whnf); first
      | (refine And.intro rfl ?_)
      | (refine And.intro (by decide +kernel) ?_)
      | (refine And.intro trivial ?_)
      | (refine And.intro hcur ?_)
      | (refine And.intro hcur1 ?_)
      | (refine st_mark hB hv (i * 4) _ _ (by omega) rfl (by omega) ?_)
      | (refine st_mark hB hv (i * 4 + 1) _ _ (by omega) ew (by omega) ?_)
      | (refine Exists.intro _ (And.intro rfl (And.intro rfl (And.intro (Nat.le_of_ble_eq_true rfl) ?_))))
      | (refine Exists.intro _ (And.intro rfl (And.intro rfl (And.intro rfl (And.intro (Nat.le_of_ble_eq_true rfl) ?_)))))
      | (refine And.intro (Exists.intro _ (And.intro rfl rfl)) ?_)
      | (exact fun hW => absurd hW (by decide +kernel))
      | (intro hW; (try simp only [Bool.not_true, Bool.not_false, Bool.not_eq_true', Bool.not_eq_false', decide_eq_true_eq, decide_eq_false_iff_not, reduceCtorEq, Bool.true_eq_false, Bool.false_eq_true, mk_size, List.size_toArray, ByteArray.size_append, ByteArray.size_extract, List.length_cons, List.length_nil, ba_get, ba_empty, Int.toNat_natCast] at hW))
      | (refine And.intro (?_ : _ → _) (?_ : _ → _))
      | (refine FinR.drop 0 (Nat.zero_le _) (Closed.zero _) rfl ?_)
      | (refine FinR.keep ?_)
      | (refine And.intro (det3_agg rfl) ?_)
      | (refine fL_mk ?_)
      | (refine And.intro (by (try simp only [mk_size, List.size_toArray, ByteArray.size_append, ByteArray.size_extract, List.length_cons, List.length_nil]); omega) ?_)
      | (refine And.intro (by (try simp only [mk_size, List.size_toArray, ByteArray.size_append, ByteArray.size_extract, List.length_cons, List.length_nil, wrap64_eq]); omega) ?_)
      | fail)
    all_goals first | (exfalso; omega) | skip
    refine LoopR.live (fun j : Nat => [(0, .sl b ver 0 n cap), (1, I (k + (i * 4 + 2 + j : Nat))), (5, I i), (6, I j)]) (fun j => σ.set b (mB B k (i * 4 + 2 + j))) (fun j => j ≤ 2) (fun j => 2 - j) 0 ⟨rfl, slI' (by rw [ew, wadd k _ (by omega)]), rfl, rfl, trivial⟩ (.keep rfl) (Nat.zero_le _) ?_
    intro j hj
    have hcur2 : ∃ B', (σ.set b (mB B k (i * 4 + 2 + j)))[b]? = some B' ∧ B'.ver = ver := ⟨_, get_set hB, hv⟩
    by_cases hlt2 : j < 2
    · skip
      repeat' ((conv => whnf); first
        | (refine And.intro rfl ?_)
        | (refine And.intro (by decide +kernel) ?_)
        | (refine And.intro trivial ?_)
        | (refine And.intro hcur2 ?_)
        | (refine st_mark hB hv (i * 4 + 2 + j) _ _ (by omega) rfl (by omega) ?_)
        | (refine Exists.intro _ (And.intro rfl (And.intro rfl (And.intro (Nat.le_of_ble_eq_true rfl) ?_))))
        | (refine Exists.intro _ (And.intro rfl (And.intro rfl (And.intro rfl (And.intro (Nat.le_of_ble_eq_true rfl) ?_)))))
        | (refine And.intro (Exists.intro _ (And.intro rfl rfl)) ?_)
        | (exact fun hW => absurd hW (by decide +kernel))
        | (intro hW; (try simp only [Bool.not_true, Bool.not_false, Bool.not_eq_true', Bool.not_eq_false', decide_eq_true_eq, decide_eq_false_iff_not, reduceCtorEq, Bool.true_eq_false, Bool.false_eq_true, mk_size, List.size_toArray, ByteArray.size_append, ByteArray.size_extract, List.length_cons, List.length_nil, ba_get, ba_empty, Int.toNat_natCast] at hW))
        | (refine And.intro (?_ : _ → _) (?_ : _ → _))
        | (refine FinR.drop 0 (Nat.zero_le _) (Closed.zero _) rfl ?_)
        | (refine FinR.keep ?_)
        | (refine And.intro (det3_agg rfl) ?_)
        | (refine fL_mk ?_)
        | (refine And.intro (by (try simp only [mk_size, List.size_toArray, ByteArray.size_append, ByteArray.size_extract, List.length_cons, List.length_nil]); omega) ?_)
        | (refine And.intro (by (try simp only [mk_size, List.size_toArray, ByteArray.size_append, ByteArray.size_extract, List.length_cons, List.length_nil, wrap64_eq]); omega) ?_)
        | fail)
      all_goals first | (exfalso; omega) | skip
      exact Again.go (j + 1) ⟨rfl, slI' (wadd k _ (by omega)), rfl, slI' (wsucc' j (by omega)), trivial⟩ (.keep rfl) (by omega) (by omega)
    · obtain rfl : j = 2 := by omega
      repeat' ((conv => whnf); first
        | (refine And.intro rfl ?_)
        | (refine And.intro (by decide +kernel) ?_)
        | (refine And.intro trivial ?_)
        | (refine Exists.intro _ (And.intro rfl (And.intro rfl (And.intro (Nat.le_of_ble_eq_true rfl) ?_))))
        | (refine Exists.intro _ (And.intro rfl (And.intro rfl (And.intro rfl (And.intro (Nat.le_of_ble_eq_true rfl) ?_)))))
        | (refine And.intro (Exists.intro _ (And.intro rfl rfl)) ?_)
        | (exact fun hW => absurd hW (by decide +kernel))
        | (intro hW; (try simp only [Bool.not_true, Bool.not_false, Bool.not_eq_true', Bool.not_eq_false', decide_eq_true_eq, decide_eq_false_iff_not, reduceCtorEq, Bool.true_eq_false, Bool.false_eq_true, mk_size, List.size_toArray, ByteArray.size_append, ByteArray.size_extract, List.length_cons, List.length_nil, ba_get, ba_empty, Int.toNat_natCast] at hW))
        | (refine And.intro (?_ : _ → _) (?_ : _ → _))
        | (refine FinR.drop 0 (Nat.zero_le _) (Closed.zero _) rfl ?_)
        | (refine FinR.keep ?_)
        | (refine And.intro (det3_agg rfl) ?_)
        | (refine fL_mk ?_)
        | (refine And.intro (by (try simp only [mk_size, List.size_toArray, ByteArray.size_append, ByteArray.size_extract, List.length_cons, List.length_nil]); omega) ?_)
        | (refine And.intro (by (try simp only [mk_size, List.size_toArray, ByteArray.size_append, ByteArray.size_extract, List.length_cons, List.length_nil, wrap64_eq]); omega) ?_)
        | fail)
      all_goals first | (exfalso; omega) | skip
      exact Again.go (i + 1) ⟨rfl, slI' (by omega), slI' (wsucc' i (by omega)), trivial⟩ (.keep (by rw [Nat.add_mul])) (by omega) (by omega)
  · obtain rfl : i = n := by omega
    repeat' ((conv => whnf); first
      | (refine And.intro rfl ?_)
      | (refine And.intro (by decide +kernel) ?_)
      | (refine And.intro trivial ?_)
      | (refine And.intro hcur ?_)
      | (refine Exists.intro _ (And.intro rfl (And.intro rfl (And.intro (Nat.le_of_ble_eq_true rfl) ?_))))
      | (refine Exists.intro _ (And.intro rfl (And.intro rfl (And.intro rfl (And.intro (Nat.le_of_ble_eq_true rfl) ?_)))))
      | (refine And.intro (Exists.intro _ (And.intro rfl rfl)) ?_)
      | (exact fun hW => absurd hW (by decide +kernel))
      | (intro hW; (try simp only [Bool.not_true, Bool.not_false, Bool.not_eq_true', Bool.not_eq_false', decide_eq_true_eq, decide_eq_false_iff_not, reduceCtorEq, Bool.true_eq_false, Bool.false_eq_true, mk_size, List.size_toArray, ByteArray.size_append, ByteArray.size_extract, List.length_cons, List.length_nil, ba_get, ba_empty, Int.toNat_natCast] at hW))
      | (refine And.intro (?_ : _ → _) (?_ : _ → _))
      | (refine FinR.drop 0 (Nat.zero_le _) (Closed.zero _) rfl ?_)
      | (refine FinR.keep ?_)
      | (refine And.intro (det3_agg rfl) ?_)
      | (refine fL_mk ?_)
      | (refine And.intro (by (try simp only [mk_size, List.size_toArray, ByteArray.size_append, ByteArray.size_extract, List.length_cons, List.length_nil]); omega) ?_)
      | (refine And.intro (by (try simp only [mk_size, List.size_toArray, ByteArray.size_append, ByteArray.size_extract, List.length_cons, List.length_nil, wrap64_eq]); omega) ?_)
      | fail)
    all_goals first | (exfalso; omega) | exact h0
theorem c_heldStepS (a : AV) (n : Nat) (k : Int) (ha : Sli W0 [] 4 enI a (rowsM k 4 n)) (hn2 : n ≤ 1048576) (hk : 0 ≤ k ∧ k ≤ 16777216) (K : Cont) (h0 : K (I (k + (n * 4 : Nat))) []) : ACall Tryd.prog W0 8 [a, I k] [] K := by
  refine by8 (Nat.le_of_ble_eq_true rfl) ?_
  have hl := rowsM_len k 4 n
  generalize hm : rowsM k 4 n = xs at ha hl
  obtain ⟨o, n', cap, rfl, hn, hc, hcm, hf⟩ := sli_form ha
  rw [hl] at hn
  subst hn
  repeat' ((conv => whnf); first
    | (refine And.intro rfl ?_)
    | (refine And.intro (by decide +kernel) ?_)
    | (refine And.intro trivial ?_)
    | (refine Exists.intro _ (And.intro rfl (And.intro rfl (And.intro (Nat.le_of_ble_eq_true rfl) ?_))))
    | (refine Exists.intro _ (And.intro rfl (And.intro rfl (And.intro rfl (And.intro (Nat.le_of_ble_eq_true rfl) ?_)))))
    | (refine And.intro (Exists.intro _ (And.intro rfl rfl)) ?_)
    | (exact fun hW => absurd hW (by decide +kernel))
    | (intro hW; (try simp only [Bool.not_true, Bool.not_false, Bool.not_eq_true', Bool.not_eq_false', decide_eq_true_eq, decide_eq_false_iff_not, reduceCtorEq, Bool.true_eq_false, Bool.false_eq_true, mk_size, List.size_toArray, ByteArray.size_append, ByteArray.size_extract, List.length_cons, List.length_nil, ba_get, ba_empty, Int.toNat_natCast] at hW))
    | (refine And.intro (?_ : _ → _) (?_ : _ → _))
    | (refine FinR.drop 0 (Nat.zero_le _) (Closed.zero _) rfl ?_)
    | (refine FinR.keep ?_)
    | (refine And.intro (det3_agg rfl) ?_)
    | (refine fL_mk ?_)
    | (refine And.intro (by (try simp only [mk_size, List.size_toArray, ByteArray.size_append, ByteArray.size_extract, List.length_cons, List.length_nil]); omega) ?_)
    | (refine And.intro (by (try simp only [mk_size, List.size_toArray, ByteArray.size_append, ByteArray.size_extract, List.length_cons, List.length_nil, wrap64_eq]); omega) ?_)
    | fail)
  refine LoopR.live (fun i : Nat => [(0, .lit (.slice o n' cap)), (1, I (k + (i * 4 : Nat))), (5, I i)]) (fun i => []) (fun i => i ≤ n') (fun i => n' - i) 0 ⟨rfl, slI' (by omega), rfl, trivial⟩ (.keep rfl) (Nat.zero_le _) ?_
  intro i hi
  by_cases hlt : i < n'
  · have hxi : xs[i]? = some [k + (i * 4 : Nat), k + (i * 4 : Nat) + 1, k + (i * 4 : Nat) + 2, k + (i * 4 : Nat) + 3] := by rw [← hm, rowsM_get k 4 hlt]; simp [marks, List.range_succ]
    obtain ⟨ad, rfl, hb, hxx⟩ := hf i _ hxi
    have hld0 := fun C h => ldInF (W0 := W0) (s := 4) (enc := enI) hb hxx (k := i) hxi 0 1 rfl (C := C) h
    have hld1 := fun C h => ldInF (W0 := W0) (s := 4) (enc := enI) hb hxx (k := i) hxi 1 1 rfl (C := C) h
    have hld2 := fun C h => ldInF (W0 := W0) (s := 4) (enc := enI) hb hxx (k := i) hxi 2 1 rfl (C := C) h
    have hld3 := fun C h => ldInF (W0 := W0) (s := 4) (enc := enI) hb hxx (k := i) hxi 3 1 rfl (C := C) h
    have ew : IntKind.i64.wrap (k + (i * 4 : Nat) + 1) = k + (i * 4 + 1 : Nat) := by rw [wrap_i64 _ (by omega) (by omega)]; omega
    repeat' ((conv => whnf); first
      | (refine And.intro rfl ?_)
      | (refine And.intro (by decide +kernel) ?_)
      | (refine And.intro trivial ?_)
      | (refine hld0 _ ?_)
      | (refine hld1 _ ?_)
      | (refine Exists.intro _ (And.intro rfl (And.intro rfl (And.intro (Nat.le_of_ble_eq_true rfl) ?_))))
      | (refine Exists.intro _ (And.intro rfl (And.intro rfl (And.intro rfl (And.intro (Nat.le_of_ble_eq_true rfl) ?_)))))
      | (refine And.intro (Exists.intro _ (And.intro rfl rfl)) ?_)
      | (exact fun hW => absurd hW (by decide +kernel))
      | (intro hW; (try simp only [Bool.not_true, Bool.not_false, Bool.not_eq_true', Bool.not_eq_false', decide_eq_true_eq, decide_eq_false_iff_not, reduceCtorEq, Bool.true_eq_false, Bool.false_eq_true, mk_size, List.size_toArray, ByteArray.size_append, ByteArray.size_extract, List.length_cons, List.length_nil, ba_get, ba_empty, Int.toNat_natCast] at hW))
      | (refine And.intro (?_ : _ → _) (?_ : _ → _))
      | (refine FinR.drop 0 (Nat.zero_le _) (Closed.zero _) rfl ?_)
      | (refine FinR.keep ?_)
      | (refine And.intro (det3_agg rfl) ?_)
      | (refine fL_mk ?_)
      | (refine And.intro (by (try simp only [mk_size, List.size_toArray, ByteArray.size_append, ByteArray.size_extract, List.length_cons, List.length_nil]); omega) ?_)
      | (refine And.intro (by (try simp only [mk_size, List.size_toArray, ByteArray.size_append, ByteArray.size_extract, List.length_cons, List.length_nil, wrap64_eq]); omega) ?_)
      | fail)
    all_goals first | (exfalso; omega) | (exfalso; exact hW trivial) | (exfalso; simp_all; done) | skip
    refine LoopR.live (fun j : Nat => [(0, .lit (.slice (some ad) n' cap)), (1, I (k + (i * 4 + 2 + j : Nat))), (5, I i), (6, I j)]) (fun j => []) (fun j => j ≤ 2) (fun j => 2 - j) 0 ⟨rfl, slI' (by rw [ew, wadd k _ (by omega)]), rfl, rfl, trivial⟩ (.keep rfl) (Nat.zero_le _) ?_
    intro j hj
    have hj7 : j = 0 ∨ j = 1 ∨ j = 2 := by omega
    obtain rfl | rfl | rfl := hj7
    · skip
      repeat' ((conv => whnf); first
        | (refine And.intro rfl ?_)
        | (refine And.intro (by decide +kernel) ?_)
        | (refine And.intro trivial ?_)
        | (refine hld2 _ ?_)
        | (refine Exists.intro _ (And.intro rfl (And.intro rfl (And.intro (Nat.le_of_ble_eq_true rfl) ?_))))
        | (refine Exists.intro _ (And.intro rfl (And.intro rfl (And.intro rfl (And.intro (Nat.le_of_ble_eq_true rfl) ?_)))))
        | (refine And.intro (Exists.intro _ (And.intro rfl rfl)) ?_)
        | (exact fun hW => absurd hW (by decide +kernel))
        | (intro hW; (try simp only [Bool.not_true, Bool.not_false, Bool.not_eq_true', Bool.not_eq_false', decide_eq_true_eq, decide_eq_false_iff_not, reduceCtorEq, Bool.true_eq_false, Bool.false_eq_true, mk_size, List.size_toArray, ByteArray.size_append, ByteArray.size_extract, List.length_cons, List.length_nil, ba_get, ba_empty, Int.toNat_natCast] at hW))
        | (refine And.intro (?_ : _ → _) (?_ : _ → _))
        | (refine FinR.drop 0 (Nat.zero_le _) (Closed.zero _) rfl ?_)
        | (refine FinR.keep ?_)
        | (refine And.intro (det3_agg rfl) ?_)
        | (refine fL_mk ?_)
        | (refine And.intro (by (try simp only [mk_size, List.size_toArray, ByteArray.size_append, ByteArray.size_extract, List.length_cons, List.length_nil]); omega) ?_)
        | (refine And.intro (by (try simp only [mk_size, List.size_toArray, ByteArray.size_append, ByteArray.size_extract, List.length_cons, List.length_nil, wrap64_eq]); omega) ?_)
        | fail)
      all_goals first | (exfalso; omega) | exact Again.go 1 ⟨rfl, slI' (wadd k _ (by omega)), rfl, rfl, trivial⟩ (.keep rfl) (by omega) (by omega)
    · skip
      repeat' ((conv => whnf); first
        | (refine And.intro rfl ?_)
        | (refine And.intro (by decide +kernel) ?_)
        | (refine And.intro trivial ?_)
        | (refine hld3 _ ?_)
        | (refine Exists.intro _ (And.intro rfl (And.intro rfl (And.intro (Nat.le_of_ble_eq_true rfl) ?_))))
        | (refine Exists.intro _ (And.intro rfl (And.intro rfl (And.intro rfl (And.intro (Nat.le_of_ble_eq_true rfl) ?_)))))
        | (refine And.intro (Exists.intro _ (And.intro rfl rfl)) ?_)
        | (exact fun hW => absurd hW (by decide +kernel))
        | (intro hW; (try simp only [Bool.not_true, Bool.not_false, Bool.not_eq_true', Bool.not_eq_false', decide_eq_true_eq, decide_eq_false_iff_not, reduceCtorEq, Bool.true_eq_false, Bool.false_eq_true, mk_size, List.size_toArray, ByteArray.size_append, ByteArray.size_extract, List.length_cons, List.length_nil, ba_get, ba_empty, Int.toNat_natCast] at hW))
        | (refine And.intro (?_ : _ → _) (?_ : _ → _))
        | (refine FinR.drop 0 (Nat.zero_le _) (Closed.zero _) rfl ?_)
        | (refine FinR.keep ?_)
        | (refine And.intro (det3_agg rfl) ?_)
        | (refine fL_mk ?_)
        | (refine And.intro (by (try simp only [mk_size, List.size_toArray, ByteArray.size_append, ByteArray.size_extract, List.length_cons, List.length_nil]); omega) ?_)
        | (refine And.intro (by (try simp only [mk_size, List.size_toArray, ByteArray.size_append, ByteArray.size_extract, List.length_cons, List.length_nil, wrap64_eq]); omega) ?_)
        | fail)
      all_goals first | (exfalso; omega) | exact Again.go 2 ⟨rfl, slI' (wadd k _ (by omega)), rfl, rfl, trivial⟩ (.keep rfl) (by omega) (by omega)
    · skip
      repeat' ((conv => whnf); first
        | (refine And.intro rfl ?_)
        | (refine And.intro (by decide +kernel) ?_)
        | (refine And.intro trivial ?_)
        | (refine Exists.intro _ (And.intro rfl (And.intro rfl (And.intro (Nat.le_of_ble_eq_true rfl) ?_))))
        | (refine Exists.intro _ (And.intro rfl (And.intro rfl (And.intro rfl (And.intro (Nat.le_of_ble_eq_true rfl) ?_)))))
        | (refine And.intro (Exists.intro _ (And.intro rfl rfl)) ?_)
        | (exact fun hW => absurd hW (by decide +kernel))
        | (intro hW; (try simp only [Bool.not_true, Bool.not_false, Bool.not_eq_true', Bool.not_eq_false', decide_eq_true_eq, decide_eq_false_iff_not, reduceCtorEq, Bool.true_eq_false, Bool.false_eq_true, mk_size, List.size_toArray, ByteArray.size_append, ByteArray.size_extract, List.length_cons, List.length_nil, ba_get, ba_empty, Int.toNat_natCast] at hW))
        | (refine And.intro (?_ : _ → _) (?_ : _ → _))
        | (refine FinR.drop 0 (Nat.zero_le _) (Closed.zero _) rfl ?_)
        | (refine FinR.keep ?_)
        | (refine And.intro (det3_agg rfl) ?_)
        | (refine fL_mk ?_)
        | (refine And.intro (by (try simp only [mk_size, List.size_toArray, ByteArray.size_append, ByteArray.size_extract, List.length_cons, List.length_nil]); omega) ?_)
        | (refine And.intro (by (try simp only [mk_size, List.size_toArray, ByteArray.size_append, ByteArray.size_extract, List.length_cons, List.length_nil, wrap64_eq]); omega) ?_)
        | fail)
      all_goals first | (exfalso; omega) | exact Again.go (i + 1) ⟨rfl, slI' (by omega), slI' (wsucc' i (by omega)), trivial⟩ (.keep rfl) (by omega) (by omega)
  · obtain rfl : i = n' := by omega
    repeat' ((conv => whnf); first
      | (refine And.intro rfl ?_)
      | (refine And.intro (by decide +kernel) ?_)
      | (refine And.intro trivial ?_)
      | (refine Exists.intro _ (And.intro rfl (And.intro rfl (And.intro (Nat.le_of_ble_eq_true rfl) ?_))))
      | (refine Exists.intro _ (And.intro rfl (And.intro rfl (And.intro rfl (And.intro (Nat.le_of_ble_eq_true rfl) ?_)))))
      | (refine And.intro (Exists.intro _ (And.intro rfl rfl)) ?_)
      | (exact fun hW => absurd hW (by decide +kernel))
      | (intro hW; (try simp only [Bool.not_true, Bool.not_false, Bool.not_eq_true', Bool.not_eq_false', decide_eq_true_eq, decide_eq_false_iff_not, reduceCtorEq, Bool.true_eq_false, Bool.false_eq_true, mk_size, List.size_toArray, ByteArray.size_append, ByteArray.size_extract, List.length_cons, List.length_nil, ba_get, ba_empty, Int.toNat_natCast] at hW))
      | (refine And.intro (?_ : _ → _) (?_ : _ → _))
      | (refine FinR.drop 0 (Nat.zero_le _) (Closed.zero _) rfl ?_)
      | (refine FinR.keep ?_)
      | (refine And.intro (det3_agg rfl) ?_)
      | (refine fL_mk ?_)
      | (refine And.intro (by (try simp only [mk_size, List.size_toArray, ByteArray.size_append, ByteArray.size_extract, List.length_cons, List.length_nil]); omega) ?_)
      | (refine And.intro (by (try simp only [mk_size, List.size_toArray, ByteArray.size_append, ByteArray.size_extract, List.length_cons, List.length_nil, wrap64_eq]); omega) ?_)
      | fail)
    all_goals first | (exfalso; omega) | exact h0
theorem d_heldStepS (a : AV) (n : Nat) (k : Int) (ha : Sli W0 σ 4 enI a (rowsM k 4 n)) (hn2 : n ≤ 1048576) (hk : 0 ≤ k ∧ k ≤ 16777216) (K : Cont) (h0 : K (I (k + (n * 4 : Nat))) σ) : ACall Tryd.prog W0 8 [a, I k] σ K :=
  lift_Sp (by kernel_rfl) rfl (fun _ => rfl) ha (fun W1 a' h K hK => c_heldStepS a' n k h hn2 hk K hK) K h0
end Go.Proofs.YtjekjbkllhompaaDoor
end

section
/- Contracts: a step's text read, by both sides. -/
set_option linter.unusedVariables false
set_option linter.unusedSimpArgs false
set_option maxRecDepth 100000
set_option maxHeartbeats 4000000
namespace Go.Proofs.YtjekjbkllhompaaDoor
open Go Go.RowKit Go.Proofs.YtjekjbkllhompaaDoor.Abs
variable {W0 : World} {σ : List Blk}
abbrev Sy (s : ByteArray) : AV := .lit (.string s)
/-- a byte of a text, as a number -/
def btI (t : ByteArray) (i : Nat) : Int := ((t.data[i]?.getD 0).toNat : Int)
theorem btI_le (t : ByteArray) (i : Nat) : 0 ≤ btI t i ∧ btI t i < 256 := by
  unfold btI
  have := (t.data[i]?.getD 0).toNat_lt
  omega
def kdI (b : Int) : Int := if b = 116 then 1 else if b = 105 then 2 else if b = 119 then 3 else 0
/-- what a text of four bytes says -/
def rdW (t : ByteArray) : List Int := [kdI (btI t 0), btI t 1 - 48, btI t 2 - 48, btI t 3 - 48]
def rdR (t : ByteArray) : AV := if t.size = 4 then .tup [Ste (kdI (btI t 0)) (btI t 1 - 48) (btI t 2 - 48) (btI t 3 - 48), Bo (stOk 4 (rdW t))] else .tup [Ste 0 0 0 0, Bo false]
theorem byte_sub (b : Int) (h : 0 ≤ b ∧ b < 256) : IntKind.i64.wrap (IntKind.i64.wrap b - 48) = b - 48 := by
  rw [wrap_i64 b (by omega) (by omega), wrap_i64 _ (by omega) (by omega)]
theorem c_l11Read (t : ByteArray) (K : Cont) (h0 : K (rdR t) []) : ACall Tryd.prog W0 10 [Sy t] [] K := by
  refine by10 (Nat.le_of_ble_eq_true rfl) ?_
  by_cases h4 : t.size = 4
  · rw [rdR, if_pos h4] at h0
    have e1 : IntKind.i64.wrap (IntKind.i64.wrap (((t.data[(1 : Int).toNat]?.getD 0).toNat : Int)) - 48) = btI t 1 - 48 := byte_sub _ (btI_le t 1)
    have e2 : IntKind.i64.wrap (IntKind.i64.wrap (((t.data[(2 : Int).toNat]?.getD 0).toNat : Int)) - 48) = btI t 2 - 48 := byte_sub _ (btI_le t 2)
    have e3 : IntKind.i64.wrap (IntKind.i64.wrap (((t.data[(3 : Int).toNat]?.getD 0).toNat : Int)) - 48) = btI t 3 - 48 := byte_sub _ (btI_le t 3)
    repeat' ((conv => whnf); first
      | (refine And.intro (show (_ : Int) < (t.size : Int) by omega) ?_)
      | (refine And.intro rfl ?_)
      | (refine And.intro (by decide +kernel) ?_)
      | (refine And.intro trivial ?_)
      | (refine d_l11Step (m := 4) (hm := by decide) (h0 := ?_) ..)
      | (refine Exists.intro _ (And.intro (fun τ => callW_fn (d_l11Step (m := 4) (hm := by decide) (h0 := And.intro rfl rfl) ..)) ?_))
      | (refine Exists.intro _ (And.intro (callW_fn (d_l11Step (m := 4) (hm := by decide) (h0 := And.intro rfl rfl) ..)) (And.intro trivial ?_)))
      | (refine Exists.intro _ (And.intro (callW_fn (d_l11Step (m := 4) (hm := by decide) (h0 := And.intro rfl rfl) ..)) ?_))
      | (refine Exists.intro _ (And.intro (fun τ _ => callW_fn (d_l11Step (m := 4) (hm := by decide) (h0 := And.intro rfl rfl) ..)) ?_))
      | (refine Exists.intro _ (And.intro rfl (And.intro rfl (And.intro (Nat.le_of_ble_eq_true rfl) ?_))))
      | (refine Exists.intro _ (And.intro rfl (And.intro rfl (And.intro rfl (And.intro (Nat.le_of_ble_eq_true rfl) ?_)))))
      | (refine And.intro (Exists.intro _ (And.intro rfl rfl)) ?_)
      | (exact fun hW => absurd hW (by decide +kernel))
      | (intro hW; (try simp only [Bool.not_true, Bool.not_false, Bool.not_eq_true', Bool.not_eq_false', decide_eq_true_eq, decide_eq_false_iff_not, reduceCtorEq, Bool.true_eq_false, Bool.false_eq_true, mk_size, List.size_toArray, ByteArray.size_append, ByteArray.size_extract, List.length_cons, List.length_nil, ba_get, ba_empty, Int.toNat_natCast] at hW))
      | (refine And.intro (?_ : _ → _) (?_ : _ → _))
      | (refine FinR.drop 0 (Nat.zero_le _) (Closed.zero _) rfl ?_)
      | (refine FinR.keep ?_)
      | (refine And.intro (det3_agg rfl) ?_)
      | (refine fL_mk ?_)
      | (refine And.intro (by (try simp only [mk_size, List.size_toArray, ByteArray.size_append, ByteArray.size_extract, List.length_cons, List.length_nil]); omega) ?_)
      | (refine And.intro (by (try simp only [mk_size, List.size_toArray, ByteArray.size_append, ByteArray.size_extract, List.length_cons, List.length_nil, wrap64_eq]); omega) ?_)
      | fail)
    all_goals first | (exfalso; omega) | skip
    all_goals
      have eb : btI t 0 = (((tl t).getD (Int.toNat 0) 0).toNat : Int) := by unfold btI; rw [ba_get]; rfl
      have hk : kdI (btI t 0) = 1 ∨ kdI (btI t 0) = 2 ∨ kdI (btI t 0) = 3 ∨ kdI (btI t 0) = 0 := by unfold kdI; split <;> (try split) <;> (try split) <;> simp
    all_goals first
      | (have hk : kdI (btI t 0) = 1 := by unfold kdI; rw [eb, if_pos hW]
         rw [rdW, hk, ← e1, ← e2, ← e3] at h0; exact h0)
      | (have hk : kdI (btI t 0) = 2 := by unfold kdI; rw [eb, if_neg (by assumption), if_pos hW]
         rw [rdW, hk, ← e1, ← e2, ← e3] at h0; exact h0)
      | (have hk : kdI (btI t 0) = 3 := by unfold kdI; rw [eb, if_neg (by assumption), if_neg (by assumption), if_pos hW]
         rw [rdW, hk, ← e1, ← e2, ← e3] at h0; exact h0)
      | (have hk : kdI (btI t 0) = 0 := by unfold kdI; rw [eb, if_neg (by assumption), if_neg (by assumption), if_neg hW]
         rw [rdW, hk, ← e1, ← e2, ← e3] at h0; exact h0)
      | skip
  · rw [rdR, if_neg h4] at h0
    repeat' ((conv => whnf); first
      | (refine And.intro rfl ?_)
      | (refine And.intro (by decide +kernel) ?_)
      | (refine And.intro trivial ?_)
      | (refine Exists.intro _ (And.intro rfl (And.intro rfl (And.intro (Nat.le_of_ble_eq_true rfl) ?_))))
      | (refine Exists.intro _ (And.intro rfl (And.intro rfl (And.intro rfl (And.intro (Nat.le_of_ble_eq_true rfl) ?_)))))
      | (refine And.intro (Exists.intro _ (And.intro rfl rfl)) ?_)
      | (exact fun hW => absurd hW (by decide +kernel))
      | (intro hW; (try simp only [Bool.not_true, Bool.not_false, Bool.not_eq_true', Bool.not_eq_false', decide_eq_true_eq, decide_eq_false_iff_not, reduceCtorEq, Bool.true_eq_false, Bool.false_eq_true, mk_size, List.size_toArray, ByteArray.size_append, ByteArray.size_extract, List.length_cons, List.length_nil, ba_get, ba_empty, Int.toNat_natCast] at hW))
      | (refine And.intro (?_ : _ → _) (?_ : _ → _))
      | (refine FinR.drop 0 (Nat.zero_le _) (Closed.zero _) rfl ?_)
      | (refine FinR.keep ?_)
      | (refine And.intro (det3_agg rfl) ?_)
      | (refine fL_mk ?_)
      | (refine And.intro (by (try simp only [mk_size, List.size_toArray, ByteArray.size_append, ByteArray.size_extract, List.length_cons, List.length_nil]); omega) ?_)
      | (refine And.intro (by (try simp only [mk_size, List.size_toArray, ByteArray.size_append, ByteArray.size_extract, List.length_cons, List.length_nil, wrap64_eq]); omega) ?_)
      | fail)
    all_goals first | exact h0 | (exfalso; omega)
theorem rdR_sh (k : Nat) (t : ByteArray) : sh3 k (rdR t) = rdR t := by unfold rdR; split <;> rfl
theorem d_l11Read (t : ByteArray) (K : Cont) (h0 : K (rdR t) σ) : ACall Tryd.prog W0 10 [Sy t] σ K :=
  ACall.lift (by kernel_rfl) (fun k => rdR_sh k t) (fun W1 K _ hK => c_l11Read t K hK) h0
end Go.Proofs.YtjekjbkllhompaaDoor
end

section
/- Plain laws: strings as lists of bytes. -/
set_option linter.unusedVariables false
namespace Go.Proofs.YtjekjbkllhompaaDoor
open Go Go.RowKit Go.Proofs.YtjekjbkllhompaaDoor.Abs
abbrev Bs := List UInt8
abbrev bs (l : Bs) : ByteArray := ⟨l.toArray⟩
theorem bs_tl (s : ByteArray) : bs (tl s) = s := by cases s; rfl
theorem iN (n : Nat) (h : n < 9223372036854775807) : IntKind.i64.wrap ((n : Int) + 1) = ((n + 1 : Nat) : Int) := by
  rw [wrap_i64 _ (by omega) (by omega)]; omega
/-- one more byte is looked at -/
theorem all_step {α : Type} {p : α → Bool} {l : List α} {i : Nat} {d : α} (hi : i < l.length) : (l.take (i + 1)).all p = ((l.take i).all p && p (l.getD i d)) := by
  rw [List.take_add_one, List.all_append]
  simp [List.getD, List.getElem?_eq_getElem hi]
theorem any_not (l : Bs) (b : UInt8) : l.any (· == b) = !l.all (fun c => !(c == b)) := by
  induction l with
  | nil => rfl
  | cons a l ih => simp only [List.any_cons, List.all_cons, ih, Bool.not_and, Bool.not_not]
/-- a byte that is plain -/
def plc (c : UInt8) : Bool := decide (32 ≤ c.toNat) && decide (c.toNat ≤ 126) && !decide (c.toNat = 35)
def plain (l : Bs) : Bool := l.all plc
end Go.Proofs.YtjekjbkllhompaaDoor
end

section
/- Plain laws: the parts of a text between bytes; what comes before a byte. -/
set_option linter.unusedVariables false
namespace Go.Proofs.YtjekjbkllhompaaDoor
open Go Go.RowKit Go.Proofs.YtjekjbkllhompaaDoor.Abs
def splitL (b : UInt8) : Bs → List Bs
  | [] => [[]]
  | c :: l => if c == b then [] :: splitL b l else match splitL b l with
    | [] => [[c]]
    | x :: xs => (c :: x) :: xs
/-- what comes before the byte, what behind it -/
def bef (b : UInt8) (l : Bs) : Bs := l.takeWhile (fun c => !(c == b))
def aft (b : UInt8) (l : Bs) : Bs := l.drop ((bef b l).length + 1)
theorem splitL_ne (b : UInt8) (l : Bs) : splitL b l ≠ [] := by
  cases l with
  | nil => simp [splitL]
  | cons c l => simp only [splitL]; split; simp; split <;> simp
theorem splitL_cons_ne {b c : UInt8} {l : Bs} (h : (c == b) = false) : ∃ x xs, splitL b l = x :: xs ∧ splitL b (c :: l) = (c :: x) :: xs := by
  cases hs : splitL b l with
  | nil => exact (splitL_ne b l hs).elim
  | cons x xs => exact ⟨x, xs, rfl, by simp only [splitL, h, hs]; rfl⟩
theorem split_none {b : UInt8} {l : Bs} (h : l.all (fun c => !(c == b)) = true) : splitL b l = [l] := by
  induction l with
  | nil => rfl
  | cons c l ih =>
    simp only [List.all_cons, Bool.and_eq_true, Bool.not_eq_true'] at h
    obtain ⟨x, xs, h1, h2⟩ := splitL_cons_ne (l := l) h.1
    rw [ih h.2] at h1; cases h1; rw [h2]
theorem split_hit {b : UInt8} : ∀ {p : Bs} {t : Bs}, p.all (fun c => !(c == b)) = true → splitL b (p ++ b :: t) = p :: splitL b t
  | [], t, _ => by simp [splitL]
  | c :: p, t, h => by
    simp only [List.all_cons, Bool.and_eq_true, Bool.not_eq_true'] at h
    obtain ⟨x, xs, h1, h2⟩ := splitL_cons_ne (l := p ++ b :: t) h.1
    rw [split_hit h.2] at h1; cases h1
    exact h2
theorem bef_all (b : UInt8) (l : Bs) : (bef b l).all (fun c => !(c == b)) = true := by
  induction l with
  | nil => rfl
  | cons c l ih =>
    unfold bef at ih ⊢
    rw [List.takeWhile_cons]
    split
    · rename_i h; rw [List.all_cons, h, ih]; rfl
    · rfl
/-- either the byte does not occur, or it stands behind what comes before it -/
theorem bef_cases (b : UInt8) (l : Bs) : (l.any (· == b) = false ∧ bef b l = l) ∨ (l.any (· == b) = true ∧ l = bef b l ++ b :: aft b l) := by
  induction l with
  | nil => exact .inl ⟨rfl, rfl⟩
  | cons c l ih =>
    cases h : c == b with
    | true =>
      right
      rw [List.any_cons, h]
      refine ⟨rfl, ?_⟩
      have e := eq_of_beq h
      subst e
      simp [bef, aft, List.takeWhile_cons]
    | false =>
      have e1 : bef b (c :: l) = c :: bef b l := by simp [bef, List.takeWhile_cons, h]
      rcases ih with ⟨h1, h2⟩ | ⟨h1, h2⟩
      · left; rw [List.any_cons, h, h1, e1, h2]; exact ⟨rfl, rfl⟩
      · right; rw [List.any_cons, h, h1, e1]
        refine ⟨rfl, ?_⟩
        have e2 : aft b (c :: l) = aft b l := by simp [aft, e1]
        rw [e2, List.cons_append, ← h2]
theorem split_head (b : UInt8) (l : Bs) : splitL b l = bef b l :: (if l.any (· == b) then splitL b (aft b l) else []) := by
  rcases bef_cases b l with ⟨h1, h2⟩ | ⟨h1, h2⟩
  · rw [h1, h2, split_none]; rfl
    rw [any_not, Bool.not_eq_false'] at h1; exact h1
  · rw [h1, if_pos rfl]
    conv => lhs; rw [h2]
    exact split_hit (bef_all b l)
/-- the loop's step: a piece ends -/
theorem split_step {b : UInt8} {l : Bs} {f i : Nat} (hf : f ≤ i) (hi : i < l.length) (hn : ((l.drop f).take (i - f)).all (fun c => !(c == b)) = true) (hb : (l.getD i 0 == b) = true) : splitL b (l.drop f) = (l.drop f).take (i - f) :: splitL b (l.drop (i + 1)) := by
  have e : l.drop f = (l.drop f).take (i - f) ++ b :: l.drop (i + 1) := by
    have h1 : l.drop f = (l.drop f).take (i - f) ++ (l.drop f).drop (i - f) := (List.take_append_drop _ _).symm
    have h2 : (l.drop f).drop (i - f) = l.drop i := by rw [List.drop_drop]; congr 1; omega
    have h3 : l.drop i = l.getD i 0 :: l.drop (i + 1) := by
      rw [List.drop_eq_getElem_cons hi]; simp [List.getD, List.getElem?_eq_getElem hi]
    rw [h2, h3, eq_of_beq hb] at h1
    exact h1
  conv => lhs; rw [e]
  exact split_hit hn
/-- the loop's step: a piece grows -/
theorem piece_step {p : UInt8 → Bool} {l : Bs} {f i : Nat} (hf : f ≤ i) (hi : i < l.length) (hn : ((l.drop f).take (i - f)).all p = true) (hb : p (l.getD i 0) = true) : ((l.drop f).take (i + 1 - f)).all p = true := by
  have e : i + 1 - f = (i - f) + 1 := by omega
  rw [e, all_step (d := 0) (by rw [List.length_drop]; omega), hn]
  have : (l.drop f).getD (i - f) 0 = l.getD i 0 := by simp only [List.getD]; rw [List.getElem?_drop]; congr 2; omega
  rw [this, hb]; rfl
end Go.Proofs.YtjekjbkllhompaaDoor
end

section
/- Contracts: texts that are plain; valid records. -/
set_option linter.unusedVariables false
set_option linter.unusedSimpArgs false
set_option maxRecDepth 100000
namespace Go.Proofs.YtjekjbkllhompaaDoor
open Go Go.RowKit Go.Proofs.YtjekjbkllhompaaDoor.Abs
variable {W0 : World} {σ : List Blk}
abbrev B8 (c : UInt8) : AV := .lit (.int .u8 (c.toNat : Nat))
theorem slI {a b : Int} (e : a = b) : AV.lit (.int .i64 a) = I b := by rw [e]
theorem u8_eq {a b : UInt8} (h : ((a.toNat : Nat) : Int) = ((b.toNat : Nat) : Int)) : (a == b) = true := by rw [UInt8.toNat_inj.1 (Int.ofNat_inj.1 h)]; simp
theorem u8_ne {a b : UInt8} (h : ¬ ((a.toNat : Nat) : Int) = ((b.toNat : Nat) : Int)) : (a == b) = false := by
  rw [Bool.eq_false_iff]; intro e; exact h (by rw [eq_of_beq e])
end Go.Proofs.YtjekjbkllhompaaDoor
end

section
/- Contracts of Go's library, as abstract calls. -/
set_option linter.unusedVariables false
set_option linter.unusedSimpArgs false
set_option maxRecDepth 100000
namespace Go.Proofs.YtjekjbkllhompaaDoor
open Go Go.RowKit Go.Proofs.YtjekjbkllhompaaDoor.Abs
variable {W0 : World} {σ : List Blk}
theorem index_cons (b : UInt8) (l : Bs) (c : UInt8) : Lib.indexByte (b :: l) c = if b == c then 0 else if Lib.indexByte l c == -1 then -1 else Lib.indexByte l c + 1 := rfl
end Go.Proofs.YtjekjbkllhompaaDoor
end

section
/- The library's table of powers: what the row's condition gives; Itoa as an abstract call. -/
set_option linter.unusedVariables false
set_option linter.unusedSimpArgs false
set_option maxRecDepth 100000
namespace Go.Proofs.YtjekjbkllhompaaDoor
open Go Go.RowKit Go.Proofs.YtjekjbkllhompaaDoor.Abs
variable {W0 : World} {σ : List Blk}
/-- the table of powers of ten lies as its initialiser lays it -/
structure TabP (W : World) : Prop where
  t : Lib.TabIs Tryd.prog W "internal/strconv.uint64pow10" .u64 Lib.pow10Tab
theorem TabP.mono {W w : World} (h : TabP W) (hb : Below W.heap.size W w) : TabP w := by
  refine ⟨?_⟩
  have h1 := h.t
  unfold Lib.TabIs World.var? at h1 ⊢
  cases hg : Tryd.prog.globalNamed "internal/strconv.uint64pow10" with
  | none => rw [hg] at h1; cases h1
  | some g =>
    rw [hg] at h1
    simp only [Option.bind_some] at h1 ⊢
    have hlt : g < W.heap.size := by
      rcases Nat.lt_or_ge g W.heap.size with h' | h'
      · exact h'
      · rw [Array.getElem?_eq_none h'] at h1; cases h1
    rw [hb.block g hlt]
    exact h1
end Go.Proofs.YtjekjbkllhompaaDoor
end

section
/- Contracts: valid records. -/
set_option linter.unusedVariables false
set_option linter.unusedSimpArgs false
set_option maxRecDepth 100000
namespace Go.Proofs.YtjekjbkllhompaaDoor
open Go Go.RowKit Go.Proofs.YtjekjbkllhompaaDoor.Abs
variable {W0 : World} {σ : List Blk}
abbrev Rc (c r : ByteArray) : AV := .agg [St c, St r]
end Go.Proofs.YtjekjbkllhompaaDoor
end

section
/- Contracts: the parts of a text. -/
set_option linter.unusedVariables false
set_option linter.unusedSimpArgs false
set_option maxRecDepth 100000
namespace Go.Proofs.YtjekjbkllhompaaDoor
open Go Go.RowKit Go.Proofs.YtjekjbkllhompaaDoor.Abs
variable {W0 : World} {σ : List Blk}
/-- the cells of texts -/
def tcells (l : List Bs) : List AV := l.map fun x => .lit (.string (bs x))
theorem tcells_sh (k : Nat) (l : List Bs) : (tcells l).map (sh1 k) = tcells l := by unfold tcells; rw [List.map_map]; rfl
theorem blk_ext {c c' : List AV} {v v' : Nat} {e z : Nat} {r m m' : Bool} (h1 : c = c') (h2 : v = v') (h3 : m = m') : [(⟨c, v, e, z, r, m⟩ : Blk)] = [⟨c', v', e, z, r, m'⟩] := by subst h1; subst h2; subst h3; rfl
theorem kX {K : Cont} {v v' : AV} {σ σ' : List Blk} (h : K v σ) (e1 : v = v') (e2 : σ = σ') : K v' σ' := by subst e1; subst e2; exact h
theorem sl_len {b v o n n' c : Nat} (h : n = n') : AV.sl b v o n c = AV.sl b v o n' c := by subst h; rfl
structure SpX where
  out : List Bs
  f : Nat
  i : Nat
  ver : Nat
  cap : Nat
theorem c_l1Split (s : ByteArray) (b : UInt8) (hs : s.size < 100000000) (K : Cont) (h0 : ∀ ver cap, K (.sl 0 ver 0 (splitL b (tl s)).length cap) [⟨tcells (splitL b (tl s)), ver, 9, 1, true, true⟩]) : ACall Tryd.prog W0 9 [St s, B8 b] [] K := by
  refine by9 (Nat.le_of_ble_eq_true rfl) ?_
  have tls := tl_len s
  repeat' ((conv => whnf); first
    | (refine And.intro rfl ?_)
    | (refine And.intro (by decide +kernel) ?_)
    | (refine And.intro trivial ?_)
    | (refine Exists.intro _ (And.intro rfl (And.intro rfl (And.intro (Nat.le_of_ble_eq_true rfl) ?_))))
    | (refine Exists.intro _ (And.intro rfl (And.intro rfl (And.intro rfl (And.intro (Nat.le_of_ble_eq_true rfl) ?_)))))
    | (refine And.intro (Exists.intro _ (And.intro rfl rfl)) ?_)
    | (exact fun hW => absurd hW (by decide +kernel))
    | (intro hW; (try simp only [Bool.not_true, Bool.not_false, Bool.not_eq_true', Bool.not_eq_false', decide_eq_true_eq, decide_eq_false_iff_not, reduceCtorEq, Bool.true_eq_false, Bool.false_eq_true, mk_size, List.size_toArray, ByteArray.size_append, ByteArray.size_extract, List.length_cons, List.length_nil, ba_get, ba_empty, Int.toNat_natCast] at hW))
    | (refine And.intro (?_ : _ → _) (?_ : _ → _))
    | (refine FinR.drop 0 (Nat.zero_le _) (Closed.zero _) rfl ?_)
    | (refine FinR.keep ?_)
    | (refine And.intro (det3_agg rfl) ?_)
    | (refine fL_mk ?_)
    | (refine And.intro (by (try simp only [mk_size, List.size_toArray, ByteArray.size_append, ByteArray.size_extract, List.length_cons, List.length_nil]); omega) ?_)
    | (refine And.intro (by (try simp only [mk_size, List.size_toArray, ByteArray.size_append, ByteArray.size_extract, List.length_cons, List.length_nil, wrap64_eq]); omega) ?_)
    | fail)
  refine LoopR.live (fun x : SpX => [(0, St s), (1, B8 b), (5, .sl 0 x.ver 0 x.out.length x.cap), (6, I x.f), (7, I x.i)]) (fun x => [⟨tcells x.out, x.ver, 9, 1, true, true⟩])
    (fun x => x.f ≤ x.i ∧ x.i ≤ s.size ∧ x.out.length ≤ x.i ∧ x.out ++ splitL b ((tl s).drop x.f) = splitL b (tl s) ∧ (((tl s).drop x.f).take (x.i - x.f)).all (fun c => !(c == b)) = true) (fun x => s.size - x.i) ⟨[], 0, 0, 0, 0⟩ ⟨rfl, rfl, rfl, rfl, rfl, trivial⟩ (.keep rfl) ⟨Nat.le_refl _, Nat.zero_le _, Nat.le_refl _, rfl, rfl⟩ ?_
  rintro ⟨out, f, i, ver, cap⟩ ⟨hf, hi, ho, hsp, hn⟩
  dsimp only at hf hi ho hsp hn
  have piece : ∀ j, s.extract f j = bs (((tl s).drop f).take (j - f)) := fun j => Lib.extract_eq _ _ _
  repeat' ((conv => whnf); first
    | (refine And.intro rfl ?_)
    | (refine And.intro (by decide +kernel) ?_)
    | (refine And.intro trivial ?_)
    | (refine Exists.intro _ (And.intro rfl (And.intro rfl (And.intro rfl (And.intro rfl (And.intro rfl (And.intro rfl (And.intro (by decide) (And.intro (by simp [tcells]) (And.intro rfl (And.intro (by (try dsimp only); unfold maxLen; omega) (And.intro (by (try dsimp only); omega) (fun cap' hcap1 hcap2 => ?_)))))))))))))
    | (refine Exists.intro _ (And.intro rfl (And.intro rfl (And.intro (Nat.le_of_ble_eq_true rfl) ?_))))
    | (refine Exists.intro _ (And.intro rfl (And.intro rfl (And.intro rfl (And.intro (Nat.le_of_ble_eq_true rfl) ?_)))))
    | (refine And.intro (Exists.intro _ (And.intro rfl rfl)) ?_)
    | (exact fun hW => absurd hW (by decide +kernel))
    | (intro hW; (try simp only [Bool.not_true, Bool.not_false, Bool.not_eq_true', Bool.not_eq_false', decide_eq_true_eq, decide_eq_false_iff_not, reduceCtorEq, Bool.true_eq_false, Bool.false_eq_true, mk_size, List.size_toArray, ByteArray.size_append, ByteArray.size_extract, List.length_cons, List.length_nil, ba_get, ba_empty, Int.toNat_natCast] at hW))
    | (refine And.intro (?_ : _ → _) (?_ : _ → _))
    | (refine FinR.drop 0 (Nat.zero_le _) (Closed.zero _) rfl ?_)
    | (refine FinR.keep ?_)
    | (refine And.intro (det3_agg rfl) ?_)
    | (refine fL_mk ?_)
    | (refine And.intro (by (try simp only [mk_size, List.size_toArray, ByteArray.size_append, ByteArray.size_extract, List.length_cons, List.length_nil]); omega) ?_)
    | (refine And.intro (by (try simp only [mk_size, List.size_toArray, ByteArray.size_append, ByteArray.size_extract, List.length_cons, List.length_nil, wrap64_eq]); omega) ?_)
    | fail)
  · refine Again.go ⟨out ++ [((tl s).drop f).take (i - f)], i + 1, i + 1, ver + 1, cap'⟩ ⟨rfl, rfl, sl_len (by simp), slI (iN i (by omega)), slI (iN i (by omega)), trivial⟩ (.keep (blk_ext ?_ rfl rfl)) ⟨Nat.le_refl _, by dsimp only; omega, by simp; omega, ?_, ?_⟩ (by dsimp only; omega)
    · show tcells (out ++ [_]) = tcells out ++ [AV.lit (.string (s.extract f i))]
      rw [piece]; simp [tcells]
    · dsimp only
      rw [split_step hf (by omega) hn (u8_eq hW)] at hsp
      rw [List.append_assoc]; exact hsp
    · dsimp only; rw [Nat.sub_self, List.take_zero]; rfl
  · refine Again.go ⟨out, f, i + 1, ver, cap⟩ ⟨rfl, rfl, rfl, rfl, slI (iN i (by omega)), trivial⟩ (.keep rfl) ⟨by dsimp only; omega, by dsimp only; omega, by dsimp only; omega, hsp, ?_⟩ (by dsimp only; omega)
    exact piece_step hf (by omega) hn (by rw [u8_ne hW]; rfl)
  · have e1 : splitL b ((tl s).drop f) = [(tl s).drop f] := split_none (by rw [List.take_of_length_le (by rw [List.length_drop]; omega)] at hn; exact hn)
    rw [e1] at hsp
    have h1 := h0 (ver + 1) cap'
    rw [← hsp] at h1
    refine kX h1 (sl_len (by simp)) (blk_ext ?_ rfl rfl)
    show tcells (out ++ [_]) = tcells out ++ [AV.lit (.string (s.extract f s.size))]
    rw [piece, List.take_of_length_le (by rw [List.length_drop]; omega)]; simp [tcells]
theorem d_l1Split (s : ByteArray) (b : UInt8) (hs : s.size < 100000000) (K : Cont) (h0 : ∀ ver cap, K (.sl σ.length ver 0 (splitL b (tl s)).length cap) (σ ++ [⟨tcells (splitL b (tl s)), ver, 9, 1, true, true⟩])) : ACall Tryd.prog W0 9 [St s, B8 b] σ K := by
  refine ACall.frame (K0 := fun v σ' => ∃ ver cap, v = .sl 0 ver 0 (splitL b (tl s)).length cap ∧ σ' = [⟨tcells (splitL b (tl s)), ver, 9, 1, true, true⟩]) rfl (fun W1 _ => c_l1Split s b hs _ fun ver cap => ⟨ver, cap, rfl, rfl⟩) ?_
  rintro v σ' ⟨ver, cap, rfl, rfl⟩
  have := h0 ver cap
  simp only [sh3, sh2, sh1, shB, List.map_cons, List.map_nil, tcells_sh, Nat.add_zero]
  exact this
end Go.Proofs.YtjekjbkllhompaaDoor
end

section
/- Contracts: steps read from a text, by the reference. -/
set_option linter.unusedVariables false
set_option linter.unusedSimpArgs false
set_option maxRecDepth 100000
set_option maxHeartbeats 4000000
namespace Go.Proofs.YtjekjbkllhompaaDoor
open Go Go.RowKit Go.Proofs.YtjekjbkllhompaaDoor.Abs
variable {W0 : World} {σ : List Blk}
abbrev stU (ys : List (List Int)) (r : Nat) : Blk := ⟨jc ys, r, 32, 4, true, true⟩
/-- a word that tells a step -/
def okW (t : ByteArray) : Bool := decide (t.size = 4) && stOk 4 (rdW t)
theorem rdR_ok {t : ByteArray} (h : okW t = true) : rdR t = .tup [Ste (kdI (btI t 0)) (btI t 1 - 48) (btI t 2 - 48) (btI t 3 - 48), Bo true] := by
  unfold okW at h
  rw [Bool.and_eq_true, decide_eq_true_iff] at h
  unfold rdR
  rw [if_pos h.1, h.2]
theorem rdR_bad {t : ByteArray} (h : okW t = false) : ∃ a b c d, rdR t = .tup [Ste a b c d, Bo false] := by
  unfold okW at h
  unfold rdR
  by_cases h4 : t.size = 4
  · rw [if_pos h4]
    rw [decide_eq_true h4, Bool.true_and] at h
    rw [h]; exact ⟨_, _, _, _, rfl⟩
  · rw [if_neg h4]; exact ⟨_, _, _, _, rfl⟩
/-- the words of a text -/
def wdL (s : ByteArray) : List ByteArray := if s.size = 0 then [] else (splitL 32 (tl s)).map bs
def okP (s : ByteArray) : Bool := decide ((wdL s).length ≤ 40) && (wdL s).all okW
theorem rd_len {ws : List ByteArray} : ∀ x ∈ ws.map rdW, x.length = 4 := fun x hx => by obtain ⟨t, _, rfl⟩ := List.mem_map.1 hx; rfl
theorem ldU {ws : List ByteArray} {i off : Nat} {t : ByteArray} (h : ws[i]? = some t) (ho : off = i) : mkAV false (((ws.map (fun t => AV.lit (.string t))).drop off).take 1) = Sy t := by
  subst ho
  have hlt := getElem?_lt h
  rw [List.drop_eq_getElem_cons (by rw [List.length_map]; exact hlt), List.getElem_map]
  rw [List.getElem?_eq_getElem hlt] at h
  cases h; rfl
theorem wd_round {R : List Blk} {b : Nat} {B : Blk} (qb : R[b]? = some B) {l : List (List Int)} {x : List Int} {cs : List AV} {w : Nat} (hc : cs = jc l ++ x.map I) (hw : w = l.length + 1) : (R.set b ⟨cs, w, 32, 4, true, true⟩)[b]? = some (stU (l ++ [x]) (l ++ [x]).length) := by
  rw [get_set qb, hc, hw, ← jc_snoc, List.length_append]; rfl
theorem c_sParse (s : ByteArray) (hs : s.size ≤ 1048576) (K : Cont) (hT : okP s = true → ∀ b r c τ, τ[b]? = some (stU ((wdL s).map rdW) r) → K (.tup [.sl b r 0 (wdL s).length c, Bo true]) τ) (hF : okP s = false → ∀ b τ, τ[b]? = some (stU [] 0) → K (.tup [.sl b 0 0 0 0, Bo false]) τ) : ACall Tryd.prog W0 4 [Sy s] [] K := by
  refine by4 (Nat.le_of_ble_eq_true rfl) ?_
  by_cases h0 : s.size = 0
  · have hw : wdL s = [] := by unfold wdL; rw [if_pos h0]
    have hT1 := hT (by unfold okP; rw [hw]; rfl)
    rw [hw] at hT1
    clear hT hF
    have hse : s = ⟨#[]⟩ := by
      cases s with | mk d => have : d = #[] := Array.eq_empty_of_size_eq_zero h0; rw [this]
    subst hse
    repeat' ((conv => whnf); first
      | (refine And.intro rfl ?_)
      | (refine And.intro (by decide +kernel) ?_)
      | (refine And.intro trivial ?_)
      | (refine Exists.intro _ (And.intro rfl (And.intro rfl (And.intro (Nat.le_of_ble_eq_true rfl) ?_))))
      | (refine Exists.intro _ (And.intro rfl (And.intro rfl (And.intro rfl (And.intro (Nat.le_of_ble_eq_true rfl) ?_)))))
      | (refine And.intro (Exists.intro _ (And.intro rfl rfl)) ?_)
      | (exact fun hW => absurd hW (by decide +kernel))
      | (intro hW; (try simp only [Bool.not_true, Bool.not_false, Bool.not_eq_true', Bool.not_eq_false', decide_eq_true_eq, decide_eq_false_iff_not, reduceCtorEq, Bool.true_eq_false, Bool.false_eq_true, mk_size, List.size_toArray, ByteArray.size_append, ByteArray.size_extract, List.length_cons, List.length_nil, ba_get, ba_empty, Int.toNat_natCast] at hW))
      | (refine And.intro (?_ : _ → _) (?_ : _ → _))
      | (refine FinR.drop 0 (Nat.zero_le _) (Closed.zero _) rfl ?_)
      | (refine FinR.keep ?_)
      | (refine And.intro (det3_agg rfl) ?_)
      | (refine fL_mk ?_)
      | (refine And.intro (by (try simp only [mk_size, List.size_toArray, ByteArray.size_append, ByteArray.size_extract, List.length_cons, List.length_nil]); omega) ?_)
      | (refine And.intro (by (try simp only [mk_size, List.size_toArray, ByteArray.size_append, ByteArray.size_extract, List.length_cons, List.length_nil, wrap64_eq]); omega) ?_)
      | fail)
    · exact hT1 _ _ _ _ rfl
    all_goals (exfalso; omega)
  · have hne : (tl s) ≠ [] := by intro h; have := congrArg List.length h; rw [tl_len] at this; exact h0 this
    have hw : wdL s = (splitL 32 (tl s)).map bs := by unfold wdL; rw [if_neg h0]
    have htc : tcells (splitL 32 (tl s)) = (wdL s).map (fun t => AV.lit (.string t)) := by rw [hw]; unfold tcells; rw [List.map_map]; rfl
    have hlw : (splitL 32 (tl s)).length = (wdL s).length := by rw [hw, List.length_map]
    obtain ⟨ws, hws⟩ : ∃ ws, ws = wdL s := ⟨_, rfl⟩
    rw [← hws] at hT htc hlw
    have hok : okP s = (decide (ws.length ≤ 40) && ws.all okW) := by unfold okP; rw [← hws]
    rw [hok] at hT hF
    have hsn : s ≠ ⟨#[]⟩ := by rintro rfl; exact h0 rfl
    repeat' ((conv => whnf); first
      | (refine And.intro rfl ?_)
      | (refine And.intro (by decide +kernel) ?_)
      | (refine And.intro trivial ?_)
      | (refine d_l1Split (s := s) (b := 32) (hs := by omega) (h0 := fun ver cap => ?_) ..; rw [hlw, htc])
      | (refine Exists.intro _ (And.intro rfl (And.intro rfl (And.intro (Nat.le_of_ble_eq_true rfl) ?_))))
      | (refine Exists.intro _ (And.intro rfl (And.intro rfl (And.intro rfl (And.intro (Nat.le_of_ble_eq_true rfl) ?_)))))
      | (refine And.intro (Exists.intro _ (And.intro rfl rfl)) ?_)
      | (exact fun hW => absurd hW (by decide +kernel))
      | (intro hW; (try simp only [Bool.not_true, Bool.not_false, Bool.not_eq_true', Bool.not_eq_false', decide_eq_true_eq, decide_eq_false_iff_not, reduceCtorEq, Bool.true_eq_false, Bool.false_eq_true, mk_size, List.size_toArray, ByteArray.size_append, ByteArray.size_extract, List.length_cons, List.length_nil, ba_get, ba_empty, Int.toNat_natCast] at hW))
      | (refine And.intro (?_ : _ → _) (?_ : _ → _))
      | (refine FinR.drop 0 (Nat.zero_le _) (Closed.zero _) rfl ?_)
      | (refine FinR.keep ?_)
      | (refine And.intro (det3_agg rfl) ?_)
      | (refine fL_mk ?_)
      | (refine And.intro (by (try simp only [mk_size, List.size_toArray, ByteArray.size_append, ByteArray.size_extract, List.length_cons, List.length_nil]); omega) ?_)
      | (refine And.intro (by (try simp only [mk_size, List.size_toArray, ByteArray.size_append, ByteArray.size_extract, List.length_cons, List.length_nil, wrap64_eq]); omega) ?_)
      | fail)
    · exfalso; omega
    · exact hF (by rw [decide_eq_false (by omega)]; rfl) _ _ rfl
    refine LoopR.live (fun y : Nat × Nat × List Blk => [(4, .sl 0 y.1 0 y.1 y.2.1), (5, .sl 1 ver 0 ws.length cap), (6, I y.1)]) (fun y => y.2.2) (fun y => y.1 ≤ ws.length ∧ (ws.take y.1).all okW = true ∧ y.2.2[0]? = some (stU ((ws.take y.1).map rdW) y.1) ∧ y.2.2[1]? = some ⟨ws.map (fun t => AV.lit (.string t)), ver, 9, 1, true, true⟩) (fun y => ws.length - y.1) (0, 0, [stU [] 0, ⟨ws.map (fun t => AV.lit (.string t)), ver, 9, 1, true, true⟩]) ⟨rfl, rfl, rfl, trivial⟩ (.keep rfl) ⟨Nat.zero_le _, rfl, rfl, rfl⟩ ?_
    rintro ⟨i, cp, R⟩ ⟨hi, hal, q0, q1⟩
    dsimp only at hi hal q0 q1 ⊢
    have hl0 := getElem?_lt q0
    have hl1 := getElem?_lt q1
    by_cases hlt : i < ws.length
    · have hwi : ws[i]? = some ws[i] := List.getElem?_eq_getElem hlt
      generalize ws[i] = t at hwi
      have hsn2 : (ws.take (i + 1)).all okW = ((ws.take i).all okW && okW t) := by rw [take_snoc hwi, List.all_append]; simp
      have hle : ∀ off, off = i → off + 1 ≤ (⟨ws.map (fun t => AV.lit (.string t)), ver, 9, 1, true, true⟩ : Blk).cells.length := fun off ho => by show off + 1 ≤ (ws.map _).length; rw [List.length_map]; omega
      have hoff : 0 + ((i : Nat) : Int).toNat * 1 = i := by rw [Int.toNat_natCast]; omega
      have hml : i * 4 = (jc ((ws.take i).map rdW)).length := by rw [jc_len (s := 4) rd_len, List.length_map, List.length_take]; omega
      cases hr : okW t with
      | true =>
        have hrd := rdR_ok hr
        have hst : stU ((ws.take (i + 1)).map rdW) (i + 1) = stU ((ws.take i).map rdW ++ [[kdI (btI t 0), btI t 1 - 48, btI t 2 - 48, btI t 3 - 48]]) ((ws.take i).map rdW ++ [[kdI (btI t 0), btI t 1 - 48, btI t 2 - 48, btI t 3 - 48]]).length := by
          rw [take_snoc hwi, List.map_append, List.length_append, List.length_map, List.length_take, Nat.min_eq_left (by omega)]; rfl
        have hlen : i + 1 = ((ws.take i).map rdW).length + 1 := by rw [List.length_map, List.length_take]; omega
        repeat' ((conv => whnf); first
          | (refine Exists.intro _ (And.intro q1 (And.intro rfl (And.intro (hle _ hoff) ?_))); rw [ldU hwi hoff])
          | (refine And.intro rfl ?_)
          | (refine And.intro (by decide +kernel) ?_)
          | (refine And.intro trivial ?_)
          | (refine fS_mk ?_)
          | (refine And.intro ⟨_, q1, rfl⟩ ?_)
          | (refine d_l11Read (h0 := ?_) ..; rw [hrd])
          | (refine Exists.intro _ (And.intro getl (And.intro rfl (And.intro rfl (And.intro (Nat.le_of_ble_eq_true rfl) ?_)))); rw [set_last])
          | (refine Exists.intro _ (And.intro getl (And.intro rfl (And.intro (Nat.le_of_ble_eq_true rfl) ?_))))
          | (refine Exists.intro _ (And.intro (getx1 q0) (And.intro rfl (And.intro rfl (And.intro rfl (And.intro rfl (And.intro rfl (And.intro (by decide) (And.intro hml (And.intro rfl (And.intro (by unfold maxLen; omega) (And.intro (by omega) (fun cap' hcap1 hcap2 => ?_)))))))))))))
          | (refine Exists.intro _ (And.intro rfl (And.intro rfl (And.intro (Nat.le_of_ble_eq_true rfl) ?_))))
          | (refine Exists.intro _ (And.intro rfl (And.intro rfl (And.intro rfl (And.intro (Nat.le_of_ble_eq_true rfl) ?_)))))
          | (refine And.intro (Exists.intro _ (And.intro rfl rfl)) ?_)
          | (exact fun hW => absurd hW (by decide +kernel))
          | (intro hW; (try simp only [Bool.not_true, Bool.not_false, Bool.not_eq_true', Bool.not_eq_false', decide_eq_true_eq, decide_eq_false_iff_not, reduceCtorEq, Bool.true_eq_false, Bool.false_eq_true, mk_size, List.size_toArray, ByteArray.size_append, ByteArray.size_extract, List.length_cons, List.length_nil, ba_get, ba_empty, Int.toNat_natCast] at hW))
          | (refine And.intro (?_ : _ → _) (?_ : _ → _))
          | (refine FinR.drop 0 (Nat.zero_le _) (Closed.zero _) rfl ?_)
          | (refine FinR.keep ?_)
          | (refine And.intro (det3_agg rfl) ?_)
          | (refine fL_mk ?_)
          | (refine And.intro (by (try simp only [mk_size, List.size_toArray, ByteArray.size_append, ByteArray.size_extract, List.length_cons, List.length_nil]); omega) ?_)
          | (refine And.intro (by (try simp only [mk_size, List.size_toArray, ByteArray.size_append, ByteArray.size_extract, List.length_cons, List.length_nil, wrap64_eq]); omega) ?_)
          | fail)
        all_goals first | (exfalso; omega) | skip
        all_goals exact Again.go (i + 1, cap', _) ⟨rfl, rfl, slI' (wsucc' i (by omega)), trivial⟩ (.keep rfl) ⟨(by show i + 1 ≤ _; omega), (by rw [hsn2, hal, hr]; rfl), (by show (_ : List Blk)[0]? = some (stU ((ws.take (i + 1)).map rdW) (i + 1)); rw [hst]; exact wd_round (getx1 q0) rfl hlen), get_ne (getx1 q1) (by omega)⟩ (by show _ - (i + 1) < _ - i; omega)
      | false =>
        obtain ⟨a, b, c, d, hrd⟩ := rdR_bad hr
        have hF := hF (by rw [show ws.all okW = false from Bool.eq_false_iff.2 (fun h => by rw [List.all_eq_true.1 h t (List.mem_of_getElem? hwi)] at hr; cases hr), Bool.and_false])
        repeat' ((conv => whnf); first
          | (refine Exists.intro _ (And.intro q1 (And.intro rfl (And.intro (hle _ hoff) ?_))); rw [ldU hwi hoff])
          | (refine And.intro rfl ?_)
          | (refine And.intro (by decide +kernel) ?_)
          | (refine And.intro trivial ?_)
          | (refine fS_mk ?_)
          | (refine And.intro ⟨_, q1, rfl⟩ ?_)
          | (refine d_l11Read (h0 := ?_) ..; rw [hrd])
          | (refine Exists.intro _ (And.intro getl (And.intro rfl (And.intro rfl (And.intro (Nat.le_of_ble_eq_true rfl) ?_)))); rw [set_last])
          | (refine Exists.intro _ (And.intro rfl (And.intro rfl (And.intro (Nat.le_of_ble_eq_true rfl) ?_))))
          | (refine Exists.intro _ (And.intro rfl (And.intro rfl (And.intro rfl (And.intro (Nat.le_of_ble_eq_true rfl) ?_)))))
          | (refine And.intro (Exists.intro _ (And.intro rfl rfl)) ?_)
          | (exact fun hW => absurd hW (by decide +kernel))
          | (intro hW; (try simp only [Bool.not_true, Bool.not_false, Bool.not_eq_true', Bool.not_eq_false', decide_eq_true_eq, decide_eq_false_iff_not, reduceCtorEq, Bool.true_eq_false, Bool.false_eq_true, mk_size, List.size_toArray, ByteArray.size_append, ByteArray.size_extract, List.length_cons, List.length_nil, ba_get, ba_empty, Int.toNat_natCast] at hW))
          | (refine And.intro (?_ : _ → _) (?_ : _ → _))
          | (refine FinR.drop 0 (Nat.zero_le _) (Closed.zero _) rfl ?_)
          | (refine FinR.keep ?_)
          | (refine And.intro (det3_agg rfl) ?_)
          | (refine fL_mk ?_)
          | (refine And.intro (by (try simp only [mk_size, List.size_toArray, ByteArray.size_append, ByteArray.size_extract, List.length_cons, List.length_nil]); omega) ?_)
          | (refine And.intro (by (try simp only [mk_size, List.size_toArray, ByteArray.size_append, ByteArray.size_extract, List.length_cons, List.length_nil, wrap64_eq]); omega) ?_)
          | fail)
        all_goals first | (exfalso; omega) | exact hF _ _ getl | skip
    · obtain rfl : i = ws.length := by omega
      rw [List.take_length] at hal q0
      have hT := hT (by rw [hal, decide_eq_true (by omega)]; rfl)
      repeat' ((conv => whnf); first
        | (refine And.intro rfl ?_)
        | (refine And.intro (by decide +kernel) ?_)
        | (refine And.intro trivial ?_)
        | (refine And.intro ⟨_, q1, rfl⟩ ?_)
        | (refine Exists.intro _ (And.intro rfl (And.intro rfl (And.intro (Nat.le_of_ble_eq_true rfl) ?_))))
        | (refine Exists.intro _ (And.intro rfl (And.intro rfl (And.intro rfl (And.intro (Nat.le_of_ble_eq_true rfl) ?_)))))
        | (refine And.intro (Exists.intro _ (And.intro rfl rfl)) ?_)
        | (exact fun hW => absurd hW (by decide +kernel))
        | (intro hW; (try simp only [Bool.not_true, Bool.not_false, Bool.not_eq_true', Bool.not_eq_false', decide_eq_true_eq, decide_eq_false_iff_not, reduceCtorEq, Bool.true_eq_false, Bool.false_eq_true, mk_size, List.size_toArray, ByteArray.size_append, ByteArray.size_extract, List.length_cons, List.length_nil, ba_get, ba_empty, Int.toNat_natCast] at hW))
        | (refine And.intro (?_ : _ → _) (?_ : _ → _))
        | (refine FinR.drop 0 (Nat.zero_le _) (Closed.zero _) rfl ?_)
        | (refine FinR.keep ?_)
        | (refine And.intro (det3_agg rfl) ?_)
        | (refine fL_mk ?_)
        | (refine And.intro (by (try simp only [mk_size, List.size_toArray, ByteArray.size_append, ByteArray.size_extract, List.length_cons, List.length_nil]); omega) ?_)
        | (refine And.intro (by (try simp only [mk_size, List.size_toArray, ByteArray.size_append, ByteArray.size_extract, List.length_cons, List.length_nil, wrap64_eq]); omega) ?_)
        | fail)
      all_goals first | (exfalso; omega) | exact hT _ _ _ _ q0 | skip
end Go.Proofs.YtjekjbkllhompaaDoor
end

section
/- Contracts: strings.Split at one byte, strings.IndexByte; steps read from a text, by the program. -/
set_option linter.unusedVariables false
set_option linter.unusedSimpArgs false
set_option maxRecDepth 100000
set_option maxHeartbeats 4000000
namespace Go.Proofs.YtjekjbkllhompaaDoor
open Go Go.RowKit Go.Proofs.YtjekjbkllhompaaDoor.Abs
variable {W0 : World} {σ : List Blk}
/-- the library's bound for short searches is a number -/
structure MaxP (W : World) : Prop where
  m : ∃ m, W.cell? ⟨0, 0, none⟩ = some (.int .i64 m)
theorem MaxP.mono {W w : World} (h : MaxP W) (hb : Below W.heap.size W w) : MaxP w := by
  obtain ⟨m, hm⟩ := h.m
  refine ⟨m, ?_⟩
  have hlt : 0 < W.heap.size := by
    rcases Nat.lt_or_ge 0 W.heap.size with h' | h'
    · exact h'
    · unfold World.cell? at hm; rw [Array.getElem?_eq_none h'] at hm; cases hm
  rw [← hm]
  unfold World.cell?
  rw [hb.block 0 hlt]
theorem index_befU (l : Bs) (c : UInt8) : Lib.indexByte l c = if l.any (· == c) then ((bef c l).length : Int) else -1 := by
  induction l with
  | nil => rfl
  | cons b l ih =>
    rw [index_cons, List.any_cons]
    cases h : b == c with
    | true => simp [bef, List.takeWhile_cons, h]
    | false =>
      have e1 : bef c (b :: l) = b :: bef c l := by simp [bef, List.takeWhile_cons, h]
      rw [ih, e1]
      cases h2 : l.any (· == c) with
      | true =>
        have h3 : ((((bef c l).length : Nat) : Int) == -1) = false := by rw [Bool.eq_false_iff]; intro e; have := eq_of_beq e; omega
        simp [h3]
      | false => simp
theorem bef_takeU (b : UInt8) (l : Bs) : l.take (bef b l).length = bef b l := by
  rcases bef_cases b l with ⟨_, h2⟩ | ⟨_, h2⟩
  · rw [h2]; simp
  · have e := congrArg (List.take (bef b l).length) h2
    rw [e]; simp
theorem bef_ltU {b : UInt8} {l : Bs} (h : l.any (· == b) = true) : (bef b l).length < l.length := by
  rcases bef_cases b l with ⟨h1, _⟩ | ⟨_, h2⟩
  · rw [h1] at h; cases h
  · conv => rhs; rw [h2]
    simp
theorem splitK_one (b : UInt8) : ∀ (n : Nat) (l : Bs), l.length ≤ n → Lib.splitK [b] 0 (l.count b) l = splitL b l
  | n, l, hn => by
    have hi : Lib.index l [b] = if l.any (· == b) then ((bef b l).length : Int) else -1 := by rw [Lib.index_one, index_befU]
    rcases bef_cases b l with ⟨h1, h2⟩ | ⟨h1, h2⟩
    · have hc : l.count b = 0 := by
        rw [List.count_eq_zero]; intro hm
        rw [List.any_eq_false] at h1
        exact h1 b hm (by simp)
      rw [hc, split_head, h1, h2]; rfl
    · have hp : (bef b l).count b = 0 := by
        rw [List.count_eq_zero]; intro hm
        have := List.all_eq_true.1 (bef_all b l) b hm
        simp at this
      have hc : l.count b = (aft b l).count b + 1 := by
        conv => lhs; rw [h2]
        rw [List.count_append, hp, List.count_cons_self]; omega
      rw [hc, split_head, h1, if_pos rfl]
      have hlt := bef_ltU h1
      unfold Lib.splitK
      rw [h1, if_pos rfl] at hi
      rw [hi, if_neg (by intro h; have := beq_iff_eq.1 h; omega), Int.toNat_natCast, Nat.add_zero]
      have ha : l.drop ((bef b l).length + [b].length) = aft b l := rfl
      have hal : (aft b l).length ≤ n - 1 := by unfold aft; rw [List.length_drop]; omega
      rw [ha, bef_takeU]
      cases n with
      | zero => omega
      | succ n => rw [splitK_one b n _ hal]
theorem splitB_one (s : ByteArray) (b : UInt8) : Lib.splitB ⟨#[b]⟩ 0 (Lib.countB s ⟨#[b]⟩) s = (splitL b (tl s)).map bs := by
  have h := Lib.splitB_data ⟨#[b]⟩ 0 (Lib.countB s ⟨#[b]⟩) s
  have hc : Lib.countB s ⟨#[b]⟩ = (tl s).count b := Lib.count_one b (tl s)
  rw [hc] at h ⊢
  rw [show Lib.splitK (⟨#[b]⟩ : ByteArray).data.toList 0 ((tl s).count b) s.data.toList = splitL b (tl s) from splitK_one b _ _ (Nat.le_refl _)] at h
  rw [← h, List.map_map]
  have : (bs ∘ fun x : ByteArray => x.data.toList) = id := by funext x; exact bs_tl x
  rw [this, List.map_id]
theorem d_Split (s : ByteArray) (b : UInt8) (hs : s.size ≤ 1048576) (hm : MaxP W0) (K : Cont) (h0 : ∀ n, n = (splitL b (tl s)).length → K (.sl σ.length 0 0 n n) (σ ++ [⟨tcells (splitL b (tl s)), 0, 9, 1, true, true⟩])) : ACall Tryd.prog W0 11 [St s, St ⟨#[b]⟩] σ K := by
  refine ⟨by kernel_rfl, fun ι w us hh hr => ?_⟩
  obtain ⟨x, l, rfl, hx, hr2⟩ := Rels.uncons hr
  obtain ⟨y, l2, rfl, hy, hr3⟩ := Rels.uncons hr2
  obtain rfl := hr3.nil_inv
  have ex : x = .string s := hx
  have ey : y = .string ⟨#[b]⟩ := hy
  subst ex; subst ey
  obtain ⟨m, hm⟩ := (hm.mono hh.below).m
  have hsp := splitB_one s b
  have hlen := Lib.splitB_all ⟨#[b]⟩ (Nat.le_refl _) 0 _ s rfl
  have hle := Lib.countB_le ⟨#[b]⟩ (Nat.le_refl _) _ s (Nat.le_refl _)
  refine (Tryd.strings_Split s ⟨#[b]⟩ m w (by omega) hm (Nat.le_refl _)).mono fun e w' ⟨he, hb⟩ => ?_
  subst hb
  rw [hsp] at hlen ⊢
  rw [List.length_map] at hlen
  have hc : Rels (crel ι σ) (tcells (splitL b (tl s))) (((splitL b (tl s)).map bs).map Value.string) := by
    refine ⟨by unfold tcells; simp, fun i a z ha hz => ?_⟩
    unfold tcells at ha
    rw [List.getElem?_map] at ha hz
    rw [List.getElem?_map] at hz
    cases hg : (splitL b (tl s))[i]? with
    | none => rw [hg] at ha; cases ha
    | some q => rw [hg] at ha hz; cases ha; cases hz; exact ⟨rfl, rfl⟩
  have h1 := hh.alloc (rest := []) (e := 9) (esz := 1) (row := true) (room := true) hc (fun _ => rfl)
  rw [List.append_nil] at h1
  refine ⟨_, _, _, .sl σ.length 0 0 (Lib.countB s ⟨#[b]⟩ + 1) (Lib.countB s ⟨#[b]⟩ + 1), he, h0 _ hlen.symm, h1.1, h1.2, ?_⟩
  refine ⟨_, getl, Nat.le_refl _, rfl, fun _ => ⟨w.heap.size, _, (by rw [← hh.len]; simp; rfl), rfl, Nat.le_refl _, ?_, fun _ _ => ?_⟩⟩
  · unfold maxLen; omega
  · show 0 + (Lib.countB s ⟨#[b]⟩ + 1) * 1 = (splitL b (tl s)).length
    omega
/-- the place of a byte in the signs of kinds -/
def kxI (b : Int) : Int := if b = 63 then 0 else if b = 116 then 1 else if b = 105 then 2 else if b = 119 then 3 else -1
theorem idx_kx (c : UInt8) : Lib.indexByte [63, 116, 105, 119] c = kxI (c.toNat : Int) := by
  have : ∀ n : Fin 256, Lib.indexByte [63, 116, 105, 119] n.val.toUInt8 = kxI (n.val : Int) := by decide +kernel
  have h := this ⟨c.toNat, c.toNat_lt⟩
  simpa using h
theorem d_IndexByte (t : ByteArray) (i : Nat) (K : Cont) (h0 : K (I (kxI (btI t i))) σ) : ACall Tryd.prog W0 12 [St ⟨#[63, 116, 105, 119]⟩, .lit (.int .u8 (((t.data[i]?.getD 0).toNat : Int)))] σ K :=
  ACall.ofCalls1 (vs := [.string ⟨#[63, 116, 105, 119]⟩, .int .u8 _]) (by kernel_rfl) (fun w _ => (Tryd.strings_IndexByte _ _ w).mono fun e w' ⟨h1, h2⟩ => by
    subst h2
    refine ⟨?_, Below.refl _ _⟩
    rw [h1, Int.toNat_natCast]
    have : ((t.data[i]?.getD 0).toNat.toUInt8) = t.data[i]?.getD 0 := by simp
    rw [this]
    show Ending.returned (.int .i64 (Lib.indexByte [63, 116, 105, 119] _)) = _
    rw [idx_kx]; rfl) h0
end Go.Proofs.YtjekjbkllhompaaDoor
end

section
/- Contracts: steps read from a text, by the program. -/
set_option linter.unusedVariables false
set_option linter.unusedSimpArgs false
set_option maxRecDepth 100000
set_option maxHeartbeats 4000000
namespace Go.Proofs.YtjekjbkllhompaaDoor
open Go Go.RowKit Go.Proofs.YtjekjbkllhompaaDoor.Abs
variable {W0 : World} {σ : List Blk}
theorem kx_cases (b : Int) : (kxI b = kdI b ∧ 1 ≤ kdI b) ∨ (kdI b = 0 ∧ (kxI b = 0 ∨ kxI b = -1)) := by
  unfold kxI kdI
  by_cases h1 : b = 116
  · subst h1; exact .inl ⟨rfl, by decide⟩
  by_cases h2 : b = 105
  · subst h2; exact .inl ⟨rfl, by decide⟩
  by_cases h3 : b = 119
  · subst h3; exact .inl ⟨rfl, by decide⟩
  rw [if_neg h1, if_neg h2, if_neg h3, if_neg h1, if_neg h2, if_neg h3]
  right; refine ⟨rfl, ?_⟩
  split
  · exact .inl rfl
  · exact .inr rfl
theorem kx_ok (b x y z : Int) : stOk 4 [kxI b, x, y, z] = stOk 4 [kdI b, x, y, z] := by
  rcases kx_cases b with ⟨h, _⟩ | ⟨h, h' | h'⟩
  · rw [h]
  · rw [h, h']
  · rw [h, h']; unfold stOk inB; simp
theorem kx_eq {b x y z : Int} (h : stOk 4 [kdI b, x, y, z] = true) : kxI b = kdI b := by
  rcases kx_cases b with ⟨h1, _⟩ | ⟨h1, _⟩
  · exact h1
  · rw [h1] at h; exact absurd h (by unfold stOk inB; simp)
theorem c_Parse (s : ByteArray) (hs : s.size ≤ 1048576) (hmx : MaxP W0) (K : Cont) (hT : okP s = true → ∀ b r c τ, τ[b]? = some (stU ((wdL s).map rdW) r) → K (.tup [.sl b r 0 (wdL s).length c, Bo true]) τ) (hF : okP s = false → ∀ τ, K (.tup [.lit (.slice none 0 0), Bo false]) τ) : ACall Tryd.prog W0 5 [Sy s] [] K := by
  refine by5 (Nat.le_of_ble_eq_true rfl) ?_
  by_cases h0 : s.size = 0
  · have hw : wdL s = [] := by unfold wdL; rw [if_pos h0]
    have hT1 := hT (by unfold okP; rw [hw]; rfl)
    rw [hw] at hT1
    clear hT hF
    have hse : s = ⟨#[]⟩ := by
      cases s with | mk d => have : d = #[] := Array.eq_empty_of_size_eq_zero h0; rw [this]
    subst hse
    repeat' ((conv => whnf); first
      | (refine And.intro rfl ?_)
      | (refine And.intro (by decide +kernel) ?_)
      | (refine And.intro trivial ?_)
      | (refine Exists.intro _ (And.intro rfl (And.intro rfl (And.intro (Nat.le_of_ble_eq_true rfl) ?_))))
      | (refine Exists.intro _ (And.intro rfl (And.intro rfl (And.intro rfl (And.intro (Nat.le_of_ble_eq_true rfl) ?_)))))
      | (refine And.intro (Exists.intro _ (And.intro rfl rfl)) ?_)
      | (exact fun hW => absurd hW (by decide +kernel))
      | (intro hW; (try simp only [Bool.not_true, Bool.not_false, Bool.not_eq_true', Bool.not_eq_false', decide_eq_true_eq, decide_eq_false_iff_not, reduceCtorEq, Bool.true_eq_false, Bool.false_eq_true, mk_size, List.size_toArray, ByteArray.size_append, ByteArray.size_extract, List.length_cons, List.length_nil, ba_get, ba_empty, Int.toNat_natCast] at hW))
      | (refine And.intro (?_ : _ → _) (?_ : _ → _))
      | (refine FinR.drop 0 (Nat.zero_le _) (Closed.zero _) rfl ?_)
      | (refine FinR.keep ?_)
      | (refine And.intro (det3_agg rfl) ?_)
      | (refine fL_mk ?_)
      | (refine And.intro (by (try simp only [mk_size, List.size_toArray, ByteArray.size_append, ByteArray.size_extract, List.length_cons, List.length_nil]); omega) ?_)
      | (refine And.intro (by (try simp only [mk_size, List.size_toArray, ByteArray.size_append, ByteArray.size_extract, List.length_cons, List.length_nil, wrap64_eq]); omega) ?_)
      | fail)
    · exact hT1 _ _ _ _ rfl
    all_goals (exfalso; omega)
  · have hw : wdL s = (splitL 32 (tl s)).map bs := by unfold wdL; rw [if_neg h0]
    have htc : tcells (splitL 32 (tl s)) = (wdL s).map (fun t => AV.lit (.string t)) := by rw [hw]; unfold tcells; rw [List.map_map]; rfl
    have hlw : (splitL 32 (tl s)).length = (wdL s).length := by rw [hw, List.length_map]
    obtain ⟨ws, hws⟩ : ∃ ws, ws = wdL s := ⟨_, rfl⟩
    rw [← hws] at hT htc hlw
    have hok : okP s = (decide (ws.length ≤ 40) && ws.all okW) := by unfold okP; rw [← hws]
    rw [hok] at hT hF
    have hsn : s ≠ ⟨#[]⟩ := by rintro rfl; exact h0 rfl
    repeat' ((conv => whnf); first
      | (refine And.intro rfl ?_)
      | (refine And.intro (by decide +kernel) ?_)
      | (refine And.intro trivial ?_)
      | (refine d_Split (s := s) (b := 32) (hs := hs) (hm := hmx) (h0 := fun n hn => ?_) ..; rw [hlw] at hn; subst hn; rw [htc])
      | (refine Exists.intro _ (And.intro rfl (And.intro rfl (And.intro (Nat.le_of_ble_eq_true rfl) ?_))))
      | (refine Exists.intro _ (And.intro rfl (And.intro rfl (And.intro rfl (And.intro (Nat.le_of_ble_eq_true rfl) ?_)))))
      | (refine And.intro (Exists.intro _ (And.intro rfl rfl)) ?_)
      | (exact fun hW => absurd hW (by decide +kernel))
      | (intro hW; (try simp only [Bool.not_true, Bool.not_false, Bool.not_eq_true', Bool.not_eq_false', decide_eq_true_eq, decide_eq_false_iff_not, reduceCtorEq, Bool.true_eq_false, Bool.false_eq_true, mk_size, List.size_toArray, ByteArray.size_append, ByteArray.size_extract, List.length_cons, List.length_nil, ba_get, ba_empty, Int.toNat_natCast] at hW))
      | (refine And.intro (?_ : _ → _) (?_ : _ → _))
      | (refine FinR.drop 0 (Nat.zero_le _) (Closed.zero _) rfl ?_)
      | (refine FinR.keep ?_)
      | (refine And.intro (det3_agg rfl) ?_)
      | (refine fL_mk ?_)
      | (refine And.intro (by (try simp only [mk_size, List.size_toArray, ByteArray.size_append, ByteArray.size_extract, List.length_cons, List.length_nil]); omega) ?_)
      | (refine And.intro (by (try simp only [mk_size, List.size_toArray, ByteArray.size_append, ByteArray.size_extract, List.length_cons, List.length_nil, wrap64_eq]); omega) ?_)
      | fail)
    · exfalso; omega
    · exact hF (by rw [decide_eq_false (by omega)]; rfl) _
    refine LoopR.live (fun y : Nat × Nat × List Blk => [(4, .sl 0 y.1 0 y.1 y.2.1), (18, .sl 1 0 0 ws.length ws.length), (19, I ws.length), (20, I y.1)]) (fun y => y.2.2) (fun y => y.1 ≤ ws.length ∧ (ws.take y.1).all okW = true ∧ y.2.2[0]? = some (stU ((ws.take y.1).map rdW) y.1) ∧ y.2.2[1]? = some ⟨ws.map (fun t => AV.lit (.string t)), 0, 9, 1, true, true⟩) (fun y => ws.length - y.1) (0, 0, [stU [] 0, ⟨ws.map (fun t => AV.lit (.string t)), 0, 9, 1, true, true⟩]) ⟨rfl, rfl, rfl, rfl, trivial⟩ (.keep rfl) ⟨Nat.zero_le _, rfl, rfl, rfl⟩ ?_
    rintro ⟨i, cp, R⟩ ⟨hi, hal, q0, q1⟩
    dsimp only at hi hal q0 q1 ⊢
    have hl0 := getElem?_lt q0
    have hl1 := getElem?_lt q1
    by_cases hlt : i < ws.length
    · have hwi : ws[i]? = some ws[i] := List.getElem?_eq_getElem hlt
      generalize ws[i] = t at hwi
      have hsn2 : (ws.take (i + 1)).all okW = ((ws.take i).all okW && okW t) := by rw [take_snoc hwi, List.all_append]; simp
      have hle : ∀ off, off = i → off + 1 ≤ (⟨ws.map (fun t => AV.lit (.string t)), 0, 9, 1, true, true⟩ : Blk).cells.length := fun off ho => by show off + 1 ≤ (ws.map _).length; rw [List.length_map]; omega
      have hoff : 0 + ((i : Nat) : Int).toNat * 1 = i := by rw [Int.toNat_natCast]; omega
      have hml : i * 4 = (jc ((ws.take i).map rdW)).length := by rw [jc_len (s := 4) rd_len, List.length_map, List.length_take]; omega
      have hFw : okW t = false → ∀ τ, K (.tup [.lit (.slice none 0 0), Bo false]) τ := fun hr => hF (by rw [show ws.all okW = false from Bool.eq_false_iff.2 (fun h => by rw [List.all_eq_true.1 h t (List.mem_of_getElem? hwi)] at hr; cases hr), Bool.and_false])
      by_cases h4 : t.size = 4
      · have hst4 : stOk 4 [kxI (btI t 0), btI t 1 - 48, btI t 2 - 48, btI t 3 - 48] = okW t := by rw [kx_ok]; unfold okW; rw [decide_eq_true h4, Bool.true_and]; rfl
        have e1 : IntKind.i64.wrap (IntKind.i64.wrap (((t.data[(1 : Int).toNat]?.getD 0).toNat : Int)) - 48) = btI t 1 - 48 := byte_sub _ (btI_le t 1)
        have e2 : IntKind.i64.wrap (IntKind.i64.wrap (((t.data[(2 : Int).toNat]?.getD 0).toNat : Int)) - 48) = btI t 2 - 48 := byte_sub _ (btI_le t 2)
        have e3 : IntKind.i64.wrap (IntKind.i64.wrap (((t.data[(3 : Int).toNat]?.getD 0).toNat : Int)) - 48) = btI t 3 - 48 := byte_sub _ (btI_le t 3)
        cases hr : okW t with
        | false =>
          rw [hr] at hst4
          have hFw := hFw hr
          repeat' ((conv => whnf); first
            | (refine And.intro (show (_ : Int) < (t.size : Int) by omega) ?_)
            | (refine Exists.intro _ (And.intro q1 (And.intro rfl (And.intro (hle _ hoff) ?_))); rw [ldU hwi hoff])
            | (refine And.intro rfl ?_)
            | (refine And.intro (by decide +kernel) ?_)
            | (refine And.intro trivial ?_)
            | (refine fS_mk ?_)
            | (refine And.intro ⟨_, q1, rfl⟩ ?_)
            | (refine d_IndexByte (t := t) (i := 0) (h0 := ?_) ..)
            | (refine Exists.intro _ (And.intro (fun τ => callW_fn (d_IndexByte (t := t) (i := 0) (h0 := And.intro rfl rfl) ..)) ?_))
            | (refine Exists.intro _ (And.intro (callW_fn (d_IndexByte (t := t) (i := 0) (h0 := And.intro rfl rfl) ..)) (And.intro trivial ?_)))
            | (refine Exists.intro _ (And.intro (callW_fn (d_IndexByte (t := t) (i := 0) (h0 := And.intro rfl rfl) ..)) ?_))
            | (refine Exists.intro _ (And.intro (fun τ _ => callW_fn (d_IndexByte (t := t) (i := 0) (h0 := And.intro rfl rfl) ..)) ?_))
            | (rw [e1, e2, e3]; refine d_isStep (m := 4) (hm := by decide) (h0 := ?_) ..; rw [hst4])
            | (refine Exists.intro _ (And.intro getl (And.intro rfl (And.intro rfl (And.intro (Nat.le_of_ble_eq_true rfl) ?_)))); rw [set_last])
            | (refine Exists.intro _ (And.intro getl (And.intro rfl (And.intro (Nat.le_of_ble_eq_true rfl) ?_))))
            | (refine Exists.intro _ (And.intro rfl (And.intro rfl (And.intro (Nat.le_of_ble_eq_true rfl) ?_))))
            | (refine Exists.intro _ (And.intro rfl (And.intro rfl (And.intro rfl (And.intro (Nat.le_of_ble_eq_true rfl) ?_)))))
            | (refine And.intro (Exists.intro _ (And.intro rfl rfl)) ?_)
            | (exact fun hW => absurd hW (by decide +kernel))
            | (intro hW; (try simp only [Bool.not_true, Bool.not_false, Bool.not_eq_true', Bool.not_eq_false', decide_eq_true_eq, decide_eq_false_iff_not, reduceCtorEq, Bool.true_eq_false, Bool.false_eq_true, mk_size, List.size_toArray, ByteArray.size_append, ByteArray.size_extract, List.length_cons, List.length_nil, ba_get, ba_empty, Int.toNat_natCast] at hW))
            | (refine And.intro (?_ : _ → _) (?_ : _ → _))
            | (refine FinR.drop 0 (Nat.zero_le _) (Closed.zero _) rfl ?_)
            | (refine FinR.keep ?_)
            | (refine And.intro (det3_agg rfl) ?_)
            | (refine fL_mk ?_)
            | (refine And.intro (by (try simp only [mk_size, List.size_toArray, ByteArray.size_append, ByteArray.size_extract, List.length_cons, List.length_nil]); omega) ?_)
            | (refine And.intro (by (try simp only [mk_size, List.size_toArray, ByteArray.size_append, ByteArray.size_extract, List.length_cons, List.length_nil, wrap64_eq]); omega) ?_)
            | fail)
          all_goals first | (exfalso; omega) | exact hFw _ | skip
        | true =>
          rw [hr] at hst4
          have hkx : kxI (btI t 0) = kdI (btI t 0) := kx_eq (by rw [← kx_ok]; exact hst4)
          have hst : stU ((ws.take (i + 1)).map rdW) (i + 1) = stU ((ws.take i).map rdW ++ [[kdI (btI t 0), btI t 1 - 48, btI t 2 - 48, btI t 3 - 48]]) ((ws.take i).map rdW ++ [[kdI (btI t 0), btI t 1 - 48, btI t 2 - 48, btI t 3 - 48]]).length := by
            rw [take_snoc hwi, List.map_append, List.length_append, List.length_map, List.length_take, Nat.min_eq_left (by omega)]; rfl
          have hlen : i + 1 = ((ws.take i).map rdW).length + 1 := by rw [List.length_map, List.length_take]; omega
          repeat' ((conv => whnf); first
            | (refine And.intro (show (_ : Int) < (t.size : Int) by omega) ?_)
            | (refine Exists.intro _ (And.intro q1 (And.intro rfl (And.intro (hle _ hoff) ?_))); rw [ldU hwi hoff])
            | (refine And.intro rfl ?_)
            | (refine And.intro (by decide +kernel) ?_)
            | (refine And.intro trivial ?_)
            | (refine fS_mk ?_)
            | (refine And.intro ⟨_, q1, rfl⟩ ?_)
            | (refine d_IndexByte (t := t) (i := 0) (h0 := ?_) ..)
            | (refine Exists.intro _ (And.intro (fun τ => callW_fn (d_IndexByte (t := t) (i := 0) (h0 := And.intro rfl rfl) ..)) ?_))
            | (refine Exists.intro _ (And.intro (callW_fn (d_IndexByte (t := t) (i := 0) (h0 := And.intro rfl rfl) ..)) (And.intro trivial ?_)))
            | (refine Exists.intro _ (And.intro (callW_fn (d_IndexByte (t := t) (i := 0) (h0 := And.intro rfl rfl) ..)) ?_))
            | (refine Exists.intro _ (And.intro (fun τ _ => callW_fn (d_IndexByte (t := t) (i := 0) (h0 := And.intro rfl rfl) ..)) ?_))
            | (rw [e1, e2, e3]; refine d_isStep (m := 4) (hm := by decide) (h0 := ?_) ..; rw [hst4, hkx])
            | (refine Exists.intro _ (And.intro getl (And.intro rfl (And.intro rfl (And.intro (Nat.le_of_ble_eq_true rfl) ?_)))); rw [set_last])
            | (refine Exists.intro _ (And.intro getl (And.intro rfl (And.intro (Nat.le_of_ble_eq_true rfl) ?_))))
            | (refine Exists.intro _ (And.intro (getx1 q0) (And.intro rfl (And.intro rfl (And.intro rfl (And.intro rfl (And.intro rfl (And.intro (by decide) (And.intro hml (And.intro rfl (And.intro (by unfold maxLen; omega) (And.intro (by omega) (fun cap' hcap1 hcap2 => ?_)))))))))))))
            | (refine Exists.intro _ (And.intro rfl (And.intro rfl (And.intro (Nat.le_of_ble_eq_true rfl) ?_))))
            | (refine Exists.intro _ (And.intro rfl (And.intro rfl (And.intro rfl (And.intro (Nat.le_of_ble_eq_true rfl) ?_)))))
            | (refine And.intro (Exists.intro _ (And.intro rfl rfl)) ?_)
            | (exact fun hW => absurd hW (by decide +kernel))
            | (intro hW; (try simp only [Bool.not_true, Bool.not_false, Bool.not_eq_true', Bool.not_eq_false', decide_eq_true_eq, decide_eq_false_iff_not, reduceCtorEq, Bool.true_eq_false, Bool.false_eq_true, mk_size, List.size_toArray, ByteArray.size_append, ByteArray.size_extract, List.length_cons, List.length_nil, ba_get, ba_empty, Int.toNat_natCast] at hW))
            | (refine And.intro (?_ : _ → _) (?_ : _ → _))
            | (refine FinR.drop 0 (Nat.zero_le _) (Closed.zero _) rfl ?_)
            | (refine FinR.keep ?_)
            | (refine And.intro (det3_agg rfl) ?_)
            | (refine fL_mk ?_)
            | (refine And.intro (by (try simp only [mk_size, List.size_toArray, ByteArray.size_append, ByteArray.size_extract, List.length_cons, List.length_nil]); omega) ?_)
            | (refine And.intro (by (try simp only [mk_size, List.size_toArray, ByteArray.size_append, ByteArray.size_extract, List.length_cons, List.length_nil, wrap64_eq]); omega) ?_)
            | fail)
          all_goals first | (exfalso; omega) | skip
          all_goals exact Again.go (i + 1, cap', _) ⟨rfl, rfl, rfl, slI' (wsucc' i (by omega)), trivial⟩ (.keep rfl) ⟨(by show i + 1 ≤ _; omega), (by rw [hsn2, hal, hr]; rfl), (by show (_ : List Blk)[0]? = some (stU ((ws.take (i + 1)).map rdW) (i + 1)); rw [hst]; exact wd_round (getx1 q0) rfl hlen), get_ne (getx1 q1) (by omega)⟩ (by show _ - (i + 1) < _ - i; omega)
      · have hFw := hFw (by unfold okW; rw [decide_eq_false h4]; rfl)
        repeat' ((conv => whnf); first
          | (refine Exists.intro _ (And.intro q1 (And.intro rfl (And.intro (hle _ hoff) ?_))); rw [ldU hwi hoff])
          | (refine And.intro rfl ?_)
          | (refine And.intro (by decide +kernel) ?_)
          | (refine And.intro trivial ?_)
          | (refine fS_mk ?_)
          | (refine And.intro ⟨_, q1, rfl⟩ ?_)
          | (refine Exists.intro _ (And.intro rfl (And.intro rfl (And.intro (Nat.le_of_ble_eq_true rfl) ?_))))
          | (refine Exists.intro _ (And.intro rfl (And.intro rfl (And.intro rfl (And.intro (Nat.le_of_ble_eq_true rfl) ?_)))))
          | (refine And.intro (Exists.intro _ (And.intro rfl rfl)) ?_)
          | (exact fun hW => absurd hW (by decide +kernel))
          | (intro hW; (try simp only [Bool.not_true, Bool.not_false, Bool.not_eq_true', Bool.not_eq_false', decide_eq_true_eq, decide_eq_false_iff_not, reduceCtorEq, Bool.true_eq_false, Bool.false_eq_true, mk_size, List.size_toArray, ByteArray.size_append, ByteArray.size_extract, List.length_cons, List.length_nil, ba_get, ba_empty, Int.toNat_natCast] at hW))
          | (refine And.intro (?_ : _ → _) (?_ : _ → _))
          | (refine FinR.drop 0 (Nat.zero_le _) (Closed.zero _) rfl ?_)
          | (refine FinR.keep ?_)
          | (refine And.intro (det3_agg rfl) ?_)
          | (refine fL_mk ?_)
          | (refine And.intro (by (try simp only [mk_size, List.size_toArray, ByteArray.size_append, ByteArray.size_extract, List.length_cons, List.length_nil]); omega) ?_)
          | (refine And.intro (by (try simp only [mk_size, List.size_toArray, ByteArray.size_append, ByteArray.size_extract, List.length_cons, List.length_nil, wrap64_eq]); omega) ?_)
          | fail)
        all_goals first | (exfalso; omega) | exact hFw _ | skip
    · obtain rfl : i = ws.length := by omega
      rw [List.take_length] at hal q0
      have hT := hT (by rw [hal, decide_eq_true (by omega)]; rfl)
      repeat' ((conv => whnf); first
        | (refine And.intro rfl ?_)
        | (refine And.intro (by decide +kernel) ?_)
        | (refine And.intro trivial ?_)
        | (refine Exists.intro _ (And.intro rfl (And.intro rfl (And.intro (Nat.le_of_ble_eq_true rfl) ?_))))
        | (refine Exists.intro _ (And.intro rfl (And.intro rfl (And.intro rfl (And.intro (Nat.le_of_ble_eq_true rfl) ?_)))))
        | (refine And.intro (Exists.intro _ (And.intro rfl rfl)) ?_)
        | (exact fun hW => absurd hW (by decide +kernel))
        | (intro hW; (try simp only [Bool.not_true, Bool.not_false, Bool.not_eq_true', Bool.not_eq_false', decide_eq_true_eq, decide_eq_false_iff_not, reduceCtorEq, Bool.true_eq_false, Bool.false_eq_true, mk_size, List.size_toArray, ByteArray.size_append, ByteArray.size_extract, List.length_cons, List.length_nil, ba_get, ba_empty, Int.toNat_natCast] at hW))
        | (refine And.intro (?_ : _ → _) (?_ : _ → _))
        | (refine FinR.drop 0 (Nat.zero_le _) (Closed.zero _) rfl ?_)
        | (refine FinR.keep ?_)
        | (refine And.intro (det3_agg rfl) ?_)
        | (refine fL_mk ?_)
        | (refine And.intro (by (try simp only [mk_size, List.size_toArray, ByteArray.size_append, ByteArray.size_extract, List.length_cons, List.length_nil]); omega) ?_)
        | (refine And.intro (by (try simp only [mk_size, List.size_toArray, ByteArray.size_append, ByteArray.size_extract, List.length_cons, List.length_nil, wrap64_eq]); omega) ?_)
        | fail)
      all_goals first | (exfalso; omega) | exact hT _ _ _ _ q0 | skip
end Go.Proofs.YtjekjbkllhompaaDoor
end
