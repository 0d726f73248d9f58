/- Plain laws: which records a text begins with. -/
import Derived.Test.YtlmplfgnhibfcaaDoorS5
set_option linter.unusedVariables false
namespace Go.Proofs.YtlmplfgnhibfcaaDoor
open Go Go.RowKit Go.Proofs.YtlmplfgnhibfcaaDoor.Abs
abbrev Rec := ByteArray × ByteArray
def encL : Nat → List Rec → Bs
  | _, [] => []
  | k, e :: es => tl (lineB k e.1 e.2) ++ encL (k + 1) es
theorem encL_snoc : ∀ (es : List Rec) (k : Nat) (e : Rec), encL k (es ++ [e]) = encL k es ++ tl (lineB (k + es.length) e.1 e.2)
  | [], k, e => by simp [encL]
  | a :: es, k, e => by
    simp only [List.cons_append, encL, List.length_cons]
    rw [encL_snoc es (k + 1) e, List.append_assoc, show k + 1 + es.length = k + (es.length + 1) by omega]
/-- no further record -/
def Last (k : Nat) (t : Bs) : Prop := ¬ ∃ c r t', k < 60 ∧ recB c r = true ∧ t = tl (lineB k c r) ++ t'
structure Reads (l : Bs) (es : List Rec) (n : Nat) : Prop where
  len : n = (encL 0 es).length
  pre : ∃ t, l = encL 0 es ++ t ∧ Last es.length t
  val : ∀ e ∈ es, recB e.1 e.2 = true
  max : es.length ≤ 60
theorem any_all {l : Bs} {b : UInt8} (h : ∀ x ∈ l, (x == b) = false) : l.any (· == b) = false := by
  rw [any_not, Bool.not_eq_false', List.all_eq_true]
  intro x hx; rw [h x hx]; rfl
theorem seal_no10 {k : Nat} {c r : ByteArray} (h : recB c r = true) : (tl (sealB (bodyB k c r))).any (· == 10) = false := by
  obtain ⟨_, h1, _, _, h2, _⟩ := recB_parts h
  rw [tl_seal, tl_body]
  simp only [List.any_append, List.any_cons, num_no _ 10 (by decide), plain_no h1 10 (by decide), plain_no h2 10 (by decide)]
  decide
theorem tl_line (k : Nat) (c r : ByteArray) : tl (lineB k c r) = tl (sealB (bodyB k c r)) ++ [10] := by rw [lineB, tl_append]; rfl
theorem line_bef {k : Nat} {c r : ByteArray} (h : recB c r = true) (t : Bs) : bef 10 (tl (lineB k c r) ++ t) = tl (sealB (bodyB k c r)) ∧ aft 10 (tl (lineB k c r) ++ t) = t ∧ (tl (lineB k c r) ++ t).any (· == 10) = true := by
  rw [tl_line, List.append_assoc]
  exact bef_of (seal_no10 h)
theorem line_eq {k : Nat} {c r : ByteArray} {t t' : Bs} (h : recB c r = true) (e : t = tl (lineB k c r) ++ t') : lineB k c r = bs (bef 10 t) ++ ⟨#[10]⟩ ∧ t.any (· == 10) = true := by
  obtain ⟨h1, _, h3⟩ := line_bef (k := k) h t'
  rw [← e] at h1 h3
  refine ⟨tl_ext ?_, h3⟩
  show tl (lineB k c r) = tl (bs (bef 10 t) ++ ⟨#[10]⟩)
  rw [tl_line, tl_append, tl_bs, h1]; rfl
theorem line_inj {k : Nat} {c r c' r' : ByteArray} {t t' : Bs} (h : recB c r = true) (h' : recB c' r' = true) (e : tl (lineB k c r) ++ t = tl (lineB k c' r') ++ t') : c = c' ∧ r = r' ∧ t = t' := by
  have h1 := line_bef (k := k) h t
  have h2 := line_bef (k := k) h' t'
  rw [e] at h1
  have e1 : sealB (bodyB k c r) = sealB (bodyB k c' r') := tl_ext (h1.1.symm.trans h2.1)
  have d1 := dec_line (k := k) (s := sealB (bodyB k c r)) h rfl
  have d2 := dec_line (k := k) (s := sealB (bodyB k c' r')) h' rfl
  rw [e1] at d1
  have e3 := List.append_cancel_left (d1.1.symm.trans d2.1)
  refine ⟨tl_ext ?_, tl_ext ?_, h1.2.1.symm.trans h2.2.1⟩
  · rw [← d1.2.1, ← d2.2.1, e3]
  · rw [← d1.2.2, ← d2.2.2, e3]
theorem enc_inj : ∀ {es es' : List Rec} {k : Nat} {t t' : Bs}, (∀ e ∈ es, recB e.1 e.2 = true) → (∀ e ∈ es', recB e.1 e.2 = true) → k + es.length ≤ 60 → k + es'.length ≤ 60 → Last (k + es.length) t → Last (k + es'.length) t' → encL k es ++ t = encL k es' ++ t' → es = es'
  | [], [], _, _, _, _, _, _, _, _, _, _ => rfl
  | [], e :: es', k, t, t', _, h', _, m', l, _, he => (l ⟨e.1, e.2, encL (k + 1) es' ++ t', by simp only [List.length_nil, List.length_cons] at m' ⊢; omega, h' e List.mem_cons_self, by simpa [encL] using he⟩).elim
  | e :: es, [], k, t, t', h, _, m, _, _, l', he => (l' ⟨e.1, e.2, encL (k + 1) es ++ t, by simp only [List.length_nil, List.length_cons] at m ⊢; omega, h e List.mem_cons_self, by simpa [encL] using he.symm⟩).elim
  | e :: es, e' :: es', k, t, t', h, h', m, m', l, l', he => by
    simp only [encL, List.append_assoc] at he
    obtain ⟨h1, h2, h3⟩ := line_inj (h e List.mem_cons_self) (h' e' List.mem_cons_self) he
    have e1 : e = e' := Prod.ext h1 h2
    simp only [List.length_cons] at m m' l l'
    rw [e1, enc_inj (fun x hx => h x (List.mem_cons_of_mem _ hx)) (fun x hx => h' x (List.mem_cons_of_mem _ hx)) (k := k + 1) (by omega) (by omega) (by rw [show k + 1 + es.length = k + (es.length + 1) by omega]; exact l) (by rw [show k + 1 + es'.length = k + (es'.length + 1) by omega]; exact l') h3]
/-- **What a text begins with is told once.** -/
theorem Reads.uniq {l : Bs} {es es' : List Rec} {n n' : Nat} (h : Reads l es n) (h' : Reads l es' n') : es = es' ∧ n = n' := by
  obtain ⟨t, e, ht⟩ := h.pre
  obtain ⟨t', e', ht'⟩ := h'.pre
  have := enc_inj (k := 0) h.val h'.val (by have := h.max; omega) (by have := h'.max; omega) (by rw [Nat.zero_add]; exact ht) (by rw [Nat.zero_add]; exact ht') (e.symm.trans e')
  subst this
  exact ⟨rfl, h.len.trans h'.len.symm⟩
theorem Reads.le {l : Bs} {es : List Rec} {n : Nat} (h : Reads l es n) : n ≤ l.length := by
  obtain ⟨t, e, _⟩ := h.pre
  rw [h.len, e]; simp
/-- the cells of records -/
def rcells (es : List Rec) : List AV := es.flatMap fun e => [.lit (.string e.1), .lit (.string e.2)]
theorem rcells_len (es : List Rec) : (rcells es).length = es.length * 2 := by
  induction es with
  | nil => rfl
  | cons e es ih => simp only [rcells, List.flatMap_cons, List.length_append, List.length_cons, List.length_nil] at ih ⊢; omega
theorem rcells_bel (k : Nat) (es : List Rec) : (rcells es).all (bel1 k) = true := by
  rw [List.all_eq_true]
  intro x hx
  simp only [rcells, List.mem_flatMap] at hx
  obtain ⟨e, _, hx⟩ := hx
  simp only [List.mem_cons, List.mem_nil_iff, or_false] at hx
  rcases hx with rfl | rfl <;> rfl
theorem rcells_sh (k : Nat) (es : List Rec) : (rcells es).map (sh1 k) = rcells es := by
  unfold rcells; rw [List.map_flatMap]; rfl
theorem closed1 {k : Nat} {c : List AV} {v : Nat} {e z : Nat} {r m : Bool} (h : c.all (bel1 k) = true) : Closed k [(⟨c, v, e, z, r, m⟩ : Blk)] := by
  intro B hB
  rw [List.mem_singleton.1 hB]; exact h
end Go.Proofs.YtlmplfgnhibfcaaDoor
