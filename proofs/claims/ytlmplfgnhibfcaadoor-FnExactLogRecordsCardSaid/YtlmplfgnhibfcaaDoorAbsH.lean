/- The abstract logic, part H: a region that draws its order: a head of operations that read (or call what leaves no trace), then a tail in one forced order. -/
import Derived.Deep.Quiet
import Derived.StillTail
set_option linter.unusedVariables false
set_option linter.unusedSimpArgs false
namespace Go.Proofs.YtlmplfgnhibfcaaDoor.Abs
open Go

section
variable {P : Program} {ops : Array Oper} {md : Region.Mode} {C : World → Prop}

/-- Whatever order the head is taken in: each operation that may come up is one of the head's and quiet, and L holds behind them. -/
def headQ (P : Program) (md : Region.Mode) (ops : Array Oper) (C : World → Prop) (n : Nat) (L : Array Bool → Act → Prop) : Nat → Array Bool → Act → Prop
  | 0, done, a => L done a
  | f + 1, done, a => Region.ready md ops done ≠ [] ∧ ∀ i ∈ Region.ready md ops done, i < n ∧ qOp P ops C i (headQ P md ops C n L f (done.setIfInBounds i true)) a

theorem any_of_headQ {n g : Nat} {L : Array Bool → Act → Prop} {Q : Exit → Act → World → Prop} (hL : ∀ done a w, C w → L done a → wpAny P md ops Q g done a w) :
    ∀ (f : Nat) (done : Array Bool) (a : Act) (w : World), C w → headQ P md ops C n L f done a → wpAny P md ops Q (f + g) done a w := by
  intro f
  induction f with
  | zero => intro done a w hw h; rw [Nat.zero_add]; exact hL _ _ _ hw h
  | succ f ih =>
    intro done a w hw h
    obtain ⟨hne, hall⟩ := h
    rw [show f + 1 + g = (f + g) + 1 by omega]
    exact ⟨fun h0 => absurd h0 hne, fun i hi => wpOp_of_qOp hw (fun a' w' hw' h' => ih _ a' w' hw' h') (hall i hi).2⟩

/-- An operation of the head that may come up may be taken first. -/
theorem headQ_take {n i : Nat} {oi : Oper} {v : Value} {L : Array Bool → Act → Prop} (hi : ops[i]? = some oi) (hin : i < n) (hn : n < ops.size)
    (hsel : ∀ (j : Nat) (o : Oper) cs b, ops[j]? = some o → o.op ≠ .select cs b) (hs : Region.sinkB md ops n = true) (hc : Region.chainB md ops n = true)
    (hend : ∀ done a, L done a → ∀ j ∈ Region.ready md ops done, n ≤ j) (f : Nat) :
    ∀ (done : Array Bool) (a : Act), HeadInv md ops n done → i ∈ Region.ready md ops done →
      (∀ j oj, ops[j]? = some oj → j ≠ i → done.getD j true = false → (∀ e ∈ oj.after, Region.binds md e = true → e.on ≠ i) → oi.apart ops oj = true) →
      YieldsIn P ops C oi v a → headQ P md ops C n L f (done.setIfInBounds i true) (a.put oi.dst v) → headQ P md ops C n L (f + 1) done a := by
  have small : ∀ {done : Array Bool}, HeadInv md ops n done → i ∈ Region.ready md ops done → ∀ j ∈ Region.ready md ops done, j < n := fun inv hr j hj => by
    apply Nat.lt_of_not_le
    intro hge
    exact tail_waits hs hc hn inv _ i rfl hin (mem_ready.1 hr).1 j hge hj
  have nonempty : ∀ {done : Array Bool}, i ∈ Region.ready md ops done → Region.ready md ops done ≠ [] := fun hr h0 => by rw [h0] at hr; cases hr
  induction f with
  | zero =>
    intro done a inv hr _ hy H
    refine ⟨nonempty hr, fun j hj => ⟨small inv hr j hj, ?_⟩⟩
    rcases Nat.decEq j i with hne | rfl
    · have h1 := hend _ _ H j (ready_mono hj hne)
      have h2 := small inv hr j hj
      omega
    · exact hy.qOp hi H
  | succ f ih =>
    intro done a inv hr hfree hy H
    refine ⟨nonempty hr, fun j hj => ⟨small inv hr j hj, ?_⟩⟩
    rcases Nat.decEq j i with hne | rfl
    · obtain ⟨hju, oj, hoj, hjall⟩ := mem_ready.1 hj
      have hunder : done.getD i false = false := getD_both (mem_ready.1 hr).1
      have hjfree : ∀ e ∈ oj.after, Region.binds md e = true → e.on ≠ i := fun e he hb h0 => by
        have := hjall e he hb
        rw [h0, hunder] at this
        cases this
      have hq := qOp_put hoj (hfree j oj hoj hne hju hjfree) (fun cs b => hsel i oi cs b hi) (fun cs b => hsel j oj cs b hoj) hy (H.2 j (ready_mono hj hne)).2
      refine qOp_mono (fun a' ⟨hy', h'⟩ => ?_) hq
      refine ih (done.setIfInBounds j true) a' (inv.set hj (small inv hr j hj)) (ready_mono hr (Ne.symm hne)) (fun k ok hk hki hku hkf => ?_) hy' ?_
      · refine hfree k ok hk hki ?_ hkf
        rcases Nat.decEq j k with h0 | rfl
        · rwa [getD_set_ne true h0] at hku
        · exact hju
      · rw [Array.setIfInBounds_comm _ _ hne]; exact h'
    · exact hy.qOp hi H

theorem headQ_lex {n g : Nat} {Lq : Act → Prop} (hsel : Region.noSelect ops = true) (hs : Region.sinkB md ops n = true) (hc : Region.chainB md ops n = true) (hn : n < ops.size) :
    ∀ (l : List Oper) (k : Nat) (done : Array Bool) (a : Act), (∀ j, j < l.length → l[j]? = ops[k + j]?) → k + l.length = n → HeadInv md ops n done → Region.lexHead md ops g l.length k done = true →
      wpQuiet P ops C Lq l a → headQ P md ops C n (fun done' a' => Region.seqB md ops g n done' = true ∧ Lq a') l.length done a := by
  intro l
  induction l with
  | nil =>
    intro k done a _ hk _ hB h
    obtain rfl : k = n := by simpa using hk
    exact ⟨by simpa [Region.lexHead] using hB, h⟩
  | cons o l ih =>
    intro k done a hl hk inv hB h
    simp only [List.length_cons] at hk
    have ho : ops[k]? = some o := by have := hl 0 (by simp); simpa using this.symm
    simp only [List.length_cons, Region.lexHead, Bool.and_eq_true] at hB
    have hready : k ∈ Region.ready md ops done := by simpa using hB.1.1
    have hq : qOp P ops C k (wpQuiet P ops C Lq l) a := by unfold qOp; simp only [ho]; exact h
    obtain ⟨v, hy, hrest⟩ := yieldsIn_of_qOp ho hq
    refine headQ_take ho (by omega) hn (Region.noSelect_spec hsel) hs hc (fun done' a' hL => seqB_ready hL.1) l.length done a inv hready (Region.free_spec ho hB.1.2) hy ?_
    exact ih (k + 1) _ _ (fun j hj => by have := hl (j + 1) (by simp; omega); simpa [Nat.add_assoc, Nat.add_comm 1 j] using this) (by omega) (inv.set hready (by omega)) hB.2 hrest

/-- A region that draws: the head, quiet in the class C, in whatever order; then the tail, in its one order. -/
theorem wp_region_head_tail {id : Nat} {Q : Exit → Act → World → Prop} {a : Act} {w : World} {l : List Oper} (n : Nat) (hm : P.follows .mixedOrders = true) (hB : Region.lexTailB .any l.toArray n = true) (hC : C { w with drawn := w.drawn + 1 })
    (h : wpQuiet P l.toArray C (fun a' => ∀ w', C w' → wpList P l.toArray Q (l.drop n) a' w') (l.take n) a) : (Code.region id l.toArray true).wp P Q a w := by
  simp only [Region.lexTailB, Bool.and_eq_true, decide_eq_true_eq] at hB
  obtain ⟨⟨⟨⟨hsel, hn⟩, hs⟩, hc⟩, hlex⟩ := hB
  have hn' : n < l.length := by simpa using hn
  have htake : (l.take n).length = n := by simp; omega
  have hdrop : (l.drop n).length = l.toArray.size - n := by simp
  have inv : HeadInv .any l.toArray n (Array.replicate l.toArray.size false) :=
    ⟨by simp, fun j oj _ h0 => (by rw [getD_replicate_false] at h0; cases h0), fun t _ ht => getD_in (by simpa using ht) (getD_replicate_false _ _)⟩
  have H := headQ_lex (C := C) (md := .any) (g := l.toArray.size - n) hsel hs hc hn (l.take n) 0 _ a (fun j hj => by
    have hj' : j < n := by rw [htake] at hj; exact hj
    simp [hj']) (by simpa using htake) inv (by rw [htake]; exact hlex) h
  have key := any_of_headQ (Q := Q) (g := l.toArray.size - n) (fun done a' w' hw' hL => by
    have := wpAny_of_seq (md := .any) (Q' := Q) (l.drop n) n done a' w' (fun j => by simp [List.getElem?_drop]) (by rw [hdrop]; exact hL.1) (hL.2 w' hw')
    rwa [hdrop] at this) _ _ _ { w with drawn := w.drawn + 1 } hC H
  rw [htake, show n + (l.toArray.size - n) = l.toArray.size by omega] at key
  exact wp_region_any hm key

end
end Go.Proofs.YtlmplfgnhibfcaaDoor.Abs
