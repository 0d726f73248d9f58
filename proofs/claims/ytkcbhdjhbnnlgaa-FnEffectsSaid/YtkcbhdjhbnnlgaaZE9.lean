import Derived.Test.YtkcbhdjhbnnlgaaZE8
section
/- Contracts: presses of whatever sheets; cells, shifts, sizes, parts. -/
set_option linter.unusedVariables false
set_option linter.unusedSimpArgs false
set_option maxRecDepth 100000
set_option maxHeartbeats 4000000
namespace Go.Proofs.Ytkcbhdjhbnnlgaa
open Go Go.RowKit Go.Proofs.Ytkcbhdjhbnnlgaa.Abs
variable {W0 : World} {σ : List Blk}
variable {a b c d e f a' b' c' d' e' f' : Int} {x y : Int}
theorem c_BlackT (n x y : Nat) (hn : n < 2 ^ 36) (hx : x < 6) (hy : y < 6) (K : Cont) (h0 : K (.tup [Bo (n.testBit (6 * y + x)), Bo true]) []) : ACall Try.prog W0 21 [ShN n, Ce x y] [] K := by
  refine by21 (Nat.le_of_ble_eq_true rfl) ?_
  have hc : cellB x y = true := cellB_iff.2 (by omega)
  rw [show 6 * y + x = y * 6 + x by omega] at h0
  repeat' ((conv => whnf); first | (refine Exists.intro ([] : List Nat) ?_) | (refine And.intro rfl ?_) | (refine And.intro (by decide +kernel) ?_) | (refine And.intro trivial ?_) | (refine d_setOfN (hn := hn) (h0 := ?_) ..) | (refine d_isCell (h0 := ?_) ..) | (refine Exists.intro _ (And.intro (fun τ => callW_fn (d_isCell (h0 := And.intro rfl rfl) ..)) ?_)) | (refine Exists.intro _ (And.intro (callW_fn (d_isCell (h0 := And.intro rfl rfl) ..)) (And.intro trivial ?_))) | (refine Exists.intro _ (And.intro (callW_fn (d_isCell (h0 := And.intro rfl rfl) ..)) ?_)) | (refine Exists.intro _ (And.intro (fun τ _ => callW_fn (d_isCell (h0 := And.intro rfl rfl) ..)) ?_)) | (refine d_number (hx := by omega) (hy := by omega) (h0 := ?_) ..) | (refine d_has (hn := Nat.lt_trans hn (by decide)) (hk := by omega) (h0 := ?_) ..) | (refine Exists.intro _ (And.intro rfl (And.intro rfl (And.intro (Nat.le_of_ble_eq_true rfl) ?_)))) | (refine Exists.intro _ (And.intro rfl (And.intro rfl (And.intro rfl (And.intro (Nat.le_of_ble_eq_true rfl) ?_))))) | (refine And.intro (Exists.intro _ (And.intro rfl rfl)) ?_) | (exact fun hW => absurd hW (by decide +kernel)) | (intro hW; (try simp only [Bool.not_true, Bool.not_false, Bool.not_eq_true', Bool.not_eq_false', decide_eq_true_eq, decide_eq_false_iff_not, reduceCtorEq, Bool.true_eq_false, Bool.false_eq_true, mk_size, List.size_toArray, ByteArray.size_append, ByteArray.size_extract, List.length_cons, List.length_nil, ba_get, ba_empty, Int.toNat_natCast] at hW)) | (refine And.intro (?_ : _ → _) (?_ : _ → _)) | (refine FinR.drop 0 (Nat.zero_le _) (Closed.zero _) rfl ?_) | (refine FinR.keep ?_) | (refine And.intro (det3_agg rfl) ?_) | (refine fL_mk ?_) | (refine And.intro (by (try simp only [mk_size, List.size_toArray, ByteArray.size_append, ByteArray.size_extract, List.length_cons, List.length_nil]); omega) ?_) | (refine And.intro (by (try simp only [mk_size, List.size_toArray, ByteArray.size_append, ByteArray.size_extract, List.length_cons, List.length_nil, wrap64_eq]); omega) ?_) | fail)
  all_goals first | exact h0 | (exfalso; simp_all; done)
theorem d_BlackT (n x y : Nat) (hn : n < 2 ^ 36) (hx : x < 6) (hy : y < 6) (K : Cont) (h0 : K (.tup [Bo (n.testBit (6 * y + x)), Bo true]) σ) : ACall Try.prog W0 21 [ShN n, Ce x y] σ K :=
  ACall.lift rfl (fun _ => rfl) (fun W1 K _ hK => c_BlackT n x y hn hx hy K hK) h0
end Go.Proofs.Ytkcbhdjhbnnlgaa
end

section
/- Contracts: the law of presses. -/
set_option linter.unusedVariables false
set_option linter.unusedSimpArgs false
set_option maxRecDepth 100000
set_option maxHeartbeats 8000000
namespace Go.Proofs.Ytkcbhdjhbnnlgaa
open Go Go.RowKit Go.Proofs.Ytkcbhdjhbnnlgaa.Abs
variable {W0 : World} {σ : List Blk}
theorem c_rBig (v : Value) (xs : List Int) (hs : Sli W0 [] 1 enB (.lit v) xs) (K : Cont) (h0 : K (Bo (decide (65536 < (xs.length : Int)))) []) : ACall Try.prog W0 6 [.lit v] [] K := by
  refine by6 (Nat.le_of_ble_eq_true rfl) ?_
  obtain ⟨o, m, cap, hv, hm, -, -, -⟩ := sli_form hs
  cases hv; subst hm
  repeat' ((conv => whnf); first | (refine Exists.intro ([] : List Nat) ?_) | (refine And.intro rfl ?_) | (refine And.intro (by decide +kernel) ?_) | (refine And.intro trivial ?_) | (refine Exists.intro _ (And.intro rfl (And.intro rfl (And.intro (Nat.le_of_ble_eq_true rfl) ?_)))) | (refine Exists.intro _ (And.intro rfl (And.intro rfl (And.intro rfl (And.intro (Nat.le_of_ble_eq_true rfl) ?_))))) | (refine And.intro (Exists.intro _ (And.intro rfl rfl)) ?_) | (exact fun hW => absurd hW (by decide +kernel)) | (intro hW; (try simp only [Bool.not_true, Bool.not_false, Bool.not_eq_true', Bool.not_eq_false', decide_eq_true_eq, decide_eq_false_iff_not, reduceCtorEq, Bool.true_eq_false, Bool.false_eq_true, mk_size, List.size_toArray, ByteArray.size_append, ByteArray.size_extract, List.length_cons, List.length_nil, ba_get, ba_empty, Int.toNat_natCast] at hW)) | (refine And.intro (?_ : _ → _) (?_ : _ → _)) | (refine FinR.drop 0 (Nat.zero_le _) (Closed.zero _) rfl ?_) | (refine FinR.keep ?_) | (refine And.intro (det3_agg rfl) ?_) | (refine fL_mk ?_) | (refine And.intro (by (try simp only [mk_size, List.size_toArray, ByteArray.size_append, ByteArray.size_extract, List.length_cons, List.length_nil]); omega) ?_) | (refine And.intro (by (try simp only [mk_size, List.size_toArray, ByteArray.size_append, ByteArray.size_extract, List.length_cons, List.length_nil, wrap64_eq]); omega) ?_) | fail)
  all_goals exact h0
end Go.Proofs.Ytkcbhdjhbnnlgaa
end

section
/- The abstract logic, part T: resolved code cut into parts; between two parts only the slots and blocks that are told stay. -/
set_option linter.unusedVariables false
set_option linter.unusedSimpArgs false
namespace Go.Proofs.Ytkcbhdjhbnnlgaa.Abs
open Go Go.RowKit
def seqN : Nat → RC → Bool
  | 0, _ => true
  | n + 1, .seq _ b => seqN n b
  | _ + 1, _ => false
def headN : Nat → RC → RC
  | 0, _ => .skip
  | n + 1, .seq a b => .seq a (headN n b)
  | _ + 1, r => r
def tailN : Nat → RC → RC
  | 0, r => r
  | n + 1, .seq _ b => tailN n b
  | _ + 1, r => r
/-! ### of all blocks some are kept, under new numbers: block i is what was block bs[i] -/
def ren0 (bs : List Nat) : AV → AV
  | .ptr b ver off => .ptr (bs.getD b 0) ver off
  | v => v
def ren1 (bs : List Nat) : AV → AV
  | .ptr b ver off => .ptr (bs.getD b 0) ver off
  | .sl b ver off n c => .sl (bs.getD b 0) ver off n c
  | .fn f first caps => .fn f (first.map (ren0 bs)) (caps.map (ren0 bs))
  | v => v
def ren2 (bs : List Nat) : AV → AV
  | .agg cs => .agg (cs.map (ren1 bs))
  | v => ren1 bs v
def ren3 (bs : List Nat) : AV → AV
  | .tup vs => .tup (vs.map (ren2 bs))
  | v => ren2 bs v
def renB (bs : List Nat) (B : Blk) : Blk := { B with cells := B.cells.map (ren1 bs) }
def idn (bs : List Nat) : Nat → Bool
  | 0 => true
  | m + 1 => idn bs m && (bs[m]? == some m)
abbrev locT (ι : Loc) (bs : List Nat) : Loc := bs.map fun b => ι.getD b (0, 0)
/-- a block that is kept: what it is now, what it was -/
inductive KeepB (bs : List Nat) (B' B : Blk) : Prop
  | lits (e : B = B') (h : ∀ c ∈ B'.cells, ∃ u, c = .lit u)
  | low (m : Nat) (e : B = B') (hm : idn bs m = true) (h : B'.cells.all (bel1 m) = true)
  | ren (e : B = renB bs B') (h : B'.cells.all (bel1 bs.length) = true)
def keepL (all : List Nat) (σ : List Blk) (bs : List Nat) (σ' : List Blk) : Prop :=
  List.rec (motive := fun _ => List Blk → Prop) (fun σ' => σ' = []) (fun b _ ih σ' => match σ' with
    | [] => False
    | B' :: σ' => (∃ B, σ[b]? = some B ∧ KeepB all B' B) ∧ ih σ') bs σ'
structure Gc (b0 : Nat) (fr : Fr) (σ : List Blk) (fr' : Fr) (σ' : List Blk) (bs : List Nat) : Prop where
  z : b0 = 0
  nd : bs.Nodup
  blk : keepL bs σ bs σ'
  slots : ∀ t, fr' t = .junk ∨ (fr t = ren3 bs (fr' t) ∧ bel3 bs.length (fr' t) = true)
section
variable {ι : Loc} {σ σ' : List Blk} {bs : List Nat} {w : World} {W0 : World}
theorem keepL_len {all : List Nat} : ∀ {bs : List Nat} {σ' : List Blk}, keepL all σ bs σ' → σ'.length = bs.length
  | [], σ', h => by rw [show σ' = [] from h]; rfl
  | b :: bs, [], h => h.elim
  | b :: bs, B' :: σ', h => by rw [List.length_cons, List.length_cons, keepL_len h.2]
theorem keepL_get {all : List Nat} : ∀ {bs : List Nat} {σ' : List Blk}, keepL all σ bs σ' → ∀ {i b : Nat} {B' : Blk}, bs[i]? = some b → σ'[i]? = some B' → ∃ B, σ[b]? = some B ∧ KeepB all B' B
  | [], σ', h, i, b, B', h1, _ => by simp at h1
  | b :: bs, [], h, _, _, _, _, _ => h.elim
  | b :: bs, B :: σ', h, 0, b', B', h1, h2 => by cases h1; cases h2; exact h.1
  | b :: bs, B :: σ', h, i + 1, b', B', h1, h2 => keepL_get h.2 h1 h2
theorem KeepB.same {B' B : Blk} (h : KeepB bs B' B) : B.ver = B'.ver ∧ B.e = B'.e ∧ B.esz = B'.esz ∧ B.row = B'.row ∧ B.room = B'.room := by
  cases h with
  | lits e h => rw [e]; exact ⟨rfl, rfl, rfl, rfl, rfl⟩
  | low m e hm h => rw [e]; exact ⟨rfl, rfl, rfl, rfl, rfl⟩
  | ren e h => rw [e]; exact ⟨rfl, rfl, rfl, rfl, rfl⟩
theorem idn_get : ∀ {m i : Nat}, idn bs m = true → i < m → bs[i]? = some i
  | 0, i, _, h => by omega
  | m + 1, i, hm, h => by
    unfold idn at hm
    rw [Bool.and_eq_true] at hm
    by_cases e : i = m
    · subst e; exact eq_of_beq hm.2
    · exact idn_get hm.1 (by omega)
theorem locT_at {i b : Nat} {q : Nat × Nat} (h1 : bs[i]? = some b) (h2 : ι[b]? = some q) : (locT ι bs)[i]? = some q := by
  unfold locT
  rw [List.getElem?_map, h1]
  show some (ι.getD b (0, 0)) = _
  rw [List.getD_eq_getElem?_getD, h2]; rfl
theorem locT_get {i : Nat} {q : Nat × Nat} (hb : ∀ b ∈ bs, b < ι.length) (h : (locT ι bs)[i]? = some q) : ∃ b, bs[i]? = some b ∧ ι[b]? = some q := by
  unfold locT at h
  rw [List.getElem?_map, Option.map_eq_some_iff] at h
  obtain ⟨b, h1, h2⟩ := h
  refine ⟨b, h1, ?_⟩
  have hlt := hb b (List.mem_of_getElem? h1)
  rw [List.getD_eq_getElem?_getD, List.getElem?_eq_getElem hlt] at h2
  rw [List.getElem?_eq_getElem hlt]; exact congrArg some h2
theorem kept_at (hk : keepL bs σ bs σ') {i : Nat} (hi : i < bs.length) : ∃ b B B', bs[i]? = some b ∧ bs.getD i 0 = b ∧ σ[b]? = some B ∧ σ'[i]? = some B' ∧ KeepB bs B' B := by
  have h1 := List.getElem?_eq_getElem hi
  have h2 : σ'[i]? = some (σ'[i]'(by rw [keepL_len hk]; exact hi)) := List.getElem?_eq_getElem _
  obtain ⟨B, h3, h4⟩ := keepL_get hk h1 h2
  exact ⟨_, B, _, h1, by rw [List.getD_eq_getElem?_getD, h1]; rfl, h3, h2, h4⟩
theorem ptrRel.ren (hk : keepL bs σ bs σ') {b ver off : Nat} {x : Value} (hb : b < bs.length) (h : ptrRel ι σ (bs.getD b 0) ver off x) : ptrRel (locT ι bs) σ' b ver off x := by
  obtain ⟨b1, B1, B', e1, e2, e3, e4, e5⟩ := kept_at hk hb
  obtain ⟨B, hB, hv, h1, hc⟩ := h
  rw [e2, e3] at hB; cases hB
  have hs := e5.same
  refine ⟨B', e4, by rw [← hs.1]; exact hv, h1, fun e => ?_⟩
  obtain ⟨c, t, hi, he⟩ := hc (by rw [hs.1]; exact e)
  exact ⟨c, t, locT_at e1 (e2 ▸ hi), he⟩
theorem slRel.ren (hk : keepL bs σ bs σ') {b ver off len cap : Nat} {x : Value} (hb : b < bs.length) (h : slRel ι σ (bs.getD b 0) ver off len cap x) : slRel (locT ι bs) σ' b ver off len cap x := by
  obtain ⟨b1, B1, B', e1, e2, e3, e4, e5⟩ := kept_at hk hb
  obtain ⟨B, hB, hv, h1, hc⟩ := h
  rw [e2, e3] at hB; cases hB
  have hs := e5.same
  refine ⟨B', e4, by rw [← hs.1]; exact hv, h1, fun e => ?_⟩
  obtain ⟨c, t, hi, he, k1, k2, k3⟩ := hc (by rw [hs.1]; exact e)
  exact ⟨c, t, locT_at e1 (e2 ▸ hi), he, k1, k2, fun hr hc => by rw [← hs.2.2.1]; exact k3 (by rw [hs.2.2.2.1]; exact hr) hc⟩
theorem Rels.unmap {α β γ : Type} {R : α → β → Prop} {R' : γ → β → Prop} {f : γ → α} {l : List γ} {m : List β} (h : Rels R (l.map f) m) (hr : ∀ a ∈ l, ∀ b, R (f a) b → R' a b) : Rels R' l m :=
  ⟨by rw [← h.1, List.length_map], fun i a b ha hb => hr a (List.mem_of_getElem? ha) b (h.2 i (f a) b (by rw [List.getElem?_map, ha]; rfl) hb)⟩
theorem rel0.ren (hk : keepL bs σ bs σ') {v : AV} {x : Value} (hb : bel0 bs.length v = true) (h : rel0 ι σ (ren0 bs v) x) : rel0 (locT ι bs) σ' v x := by
  cases v <;> first | exact h | exact ptrRel.ren hk (by simpa [bel0] using hb) h
theorem rel1.ren (hk : keepL bs σ bs σ') {v : AV} {x : Value} (hb : bel1 bs.length v = true) (h : rel1 ι σ (ren1 bs v) x) : rel1 (locT ι bs) σ' v x := by
  cases v with
  | ptr b ver off => exact ptrRel.ren hk (by simpa [bel1] using hb) h
  | sl b ver off len cap => exact slRel.ren hk (by simpa [bel1] using hb) h
  | fn f first caps =>
    obtain ⟨l1, l2, e, h1, h2⟩ := h
    simp only [bel1, Bool.and_eq_true] at hb
    exact ⟨l1, l2, e, h1.unmap fun a ha _ h => rel0.ren hk (List.all_eq_true.1 hb.1 a ha) h, h2.unmap fun a ha _ h => rel0.ren hk (List.all_eq_true.1 hb.2 a ha) h⟩
  | _ => exact h
theorem crel.ren (hk : keepL bs σ bs σ') {v : AV} {x : Value} (hb : bel1 bs.length v = true) (h : crel ι σ (ren1 bs v) x) : crel (locT ι bs) σ' v x := ⟨rel1.ren hk hb h.1, h.2⟩
theorem rel2.ren (hk : keepL bs σ bs σ') {v : AV} {x : Value} (hb : bel2 bs.length v = true) (h : rel2 ι σ (ren2 bs v) x) : rel2 (locT ι bs) σ' v x := by
  cases v with
  | agg cs => obtain ⟨l, e, h1⟩ := h; exact ⟨l, e, h1.unmap fun a ha _ h => crel.ren hk (List.all_eq_true.1 hb a ha) h⟩
  | ptr b ver off => exact ptrRel.ren hk (by simpa [bel2, bel1] using hb) h
  | sl b ver off len cap => exact slRel.ren hk (by simpa [bel2, bel1] using hb) h
  | fn f first caps => exact rel1.ren (v := .fn f first caps) hk hb h
  | _ => exact h
theorem rel3.ren (hk : keepL bs σ bs σ') {v : AV} {x : Value} (hb : bel3 bs.length v = true) (h : rel3 ι σ (ren3 bs v) x) : rel3 (locT ι bs) σ' v x := by
  cases v with
  | tup vs => obtain ⟨l, e, h1⟩ := h; exact ⟨l, e, h1.unmap fun a ha _ h => rel2.ren hk (List.all_eq_true.1 hb a ha) h⟩
  | agg cs => exact rel2.ren (v := .agg cs) hk hb h
  | ptr b ver off => exact ptrRel.ren hk (by simpa [bel3, bel2, bel1] using hb) h
  | sl b ver off len cap => exact slRel.ren hk (by simpa [bel3, bel2, bel1] using hb) h
  | fn f first caps => exact rel1.ren (v := .fn f first caps) hk hb h
  | _ => exact h
theorem ren0_id {m : Nat} (hm : idn bs m = true) {v : AV} (h : bel0 m v = true) : ren0 bs v = v := by
  cases v with
  | ptr b ver off =>
    have hb : b < m := by simpa [bel0] using h
    show AV.ptr (bs.getD b 0) ver off = _
    rw [List.getD_eq_getElem?_getD, idn_get hm hb]; rfl
  | _ => rfl
theorem ren0s_id {m : Nat} (hm : idn bs m = true) : ∀ {l : List AV}, l.all (bel0 m) = true → l.map (ren0 bs) = l
  | [], _ => rfl
  | a :: l, h => by
    rw [List.all_cons, Bool.and_eq_true] at h
    rw [List.map_cons, ren0_id hm h.1, ren0s_id hm h.2]
theorem ren1_id {m : Nat} (hm : idn bs m = true) {v : AV} (h : bel1 m v = true) : ren1 bs v = v := by
  cases v with
  | ptr b ver off =>
    have hb : b < m := by simpa [bel1] using h
    show AV.ptr (bs.getD b 0) ver off = _
    rw [List.getD_eq_getElem?_getD, idn_get hm hb]; rfl
  | sl b ver off n c =>
    have hb : b < m := by simpa [bel1] using h
    show AV.sl (bs.getD b 0) ver off n c = _
    rw [List.getD_eq_getElem?_getD, idn_get hm hb]; rfl
  | fn f first caps =>
    simp only [bel1, Bool.and_eq_true] at h
    show AV.fn f (first.map (ren0 bs)) (caps.map (ren0 bs)) = _
    rw [ren0s_id hm h.1, ren0s_id hm h.2]
  | _ => rfl
theorem ren1s_id {m : Nat} (hm : idn bs m = true) : ∀ {l : List AV}, l.all (bel1 m) = true → l.map (ren1 bs) = l
  | [], _ => rfl
  | a :: l, h => by
    rw [List.all_cons, Bool.and_eq_true] at h
    rw [List.map_cons, ren1_id hm h.1, ren1s_id hm h.2]
theorem bel1_lt {m k : Nat} (hmk : m ≤ k) {v : AV} (h : bel1 m v = true) : bel1 k v = true := by
  have h0 : ∀ {l : List AV}, l.all (bel0 m) = true → l.all (bel0 k) = true := fun hl => by
    rw [List.all_eq_true] at hl ⊢
    intro a ha
    have := hl a ha
    cases a <;> first | rfl | (simp only [bel0, decide_eq_true_eq] at this ⊢; omega)
  cases v with
  | ptr b ver off => simp only [bel1, decide_eq_true_eq] at h ⊢; omega
  | sl b ver off n c => simp only [bel1, decide_eq_true_eq] at h ⊢; omega
  | fn f first caps =>
    simp only [bel1, Bool.and_eq_true] at h ⊢
    exact ⟨h0 h.1, h0 h.2⟩
  | _ => rfl
theorem idn_le {m : Nat} (hm : idn bs m = true) : m ≤ bs.length := by
  cases m with
  | zero => exact Nat.zero_le _
  | succ m => have := getElem?_lt (idn_get hm (Nat.lt_succ_self m)); omega
theorem KeepB.cells {B' B : Blk} (h : KeepB bs B' B) : B.cells = B'.cells.map (ren1 bs) ∧ B'.cells.all (bel1 bs.length) = true := by
  cases h with
  | lits e h =>
    subst e
    have h1 : ∀ c ∈ B.cells, bel1 0 c = true := fun c hc => by obtain ⟨u, rfl⟩ := h c hc; rfl
    have h2 : B.cells.all (bel1 0) = true := List.all_eq_true.2 h1
    exact ⟨(ren1s_id (m := 0) rfl h2).symm, List.all_eq_true.2 fun c hc => bel1_lt (Nat.zero_le _) (h1 c hc)⟩
  | low m e hm h =>
    subst e
    exact ⟨(ren1s_id hm h).symm, List.all_eq_true.2 fun c hc => bel1_lt (idn_le hm) (List.all_eq_true.1 h c hc)⟩
  | ren e h => rw [e]; exact ⟨rfl, h⟩
theorem HRel.gc (h : HRel W0 ι σ w) (nd : bs.Nodup) (hk : keepL bs σ bs σ') : HRel W0 (locT ι bs) σ' w := by
  have hb : ∀ b ∈ bs, b < ι.length := by
    intro b hb
    obtain ⟨i, hi⟩ := List.mem_iff_getElem?.1 hb
    obtain ⟨b1, B1, B', e1, e2, e3, e4, e5⟩ := kept_at hk (getElem?_lt hi)
    rw [hi] at e1; cases e1
    rw [h.len]; exact getElem?_lt e3
  refine ⟨h.below, by simp [keepL_len hk], fun i j c t t' hi hj => ?_, fun i c t hi => ?_, fun i B' c t hi hj => ?_⟩
  · obtain ⟨b, k1, k2⟩ := locT_get hb hi
    obtain ⟨b', k3, k4⟩ := locT_get hb hj
    have e := h.inj b b' c t t' k2 k4
    subst e
    exact (List.getElem?_inj (getElem?_lt k1) nd).1 (k1.trans k3.symm)
  · obtain ⟨b, k1, k2⟩ := locT_get hb hi
    exact h.dom b c t k2
  · obtain ⟨b, k1, k2⟩ := locT_get hb hj
    obtain ⟨B, hB, hKB⟩ := keepL_get hk k1 hi
    obtain ⟨vs', rest, m1, m2, m3, m4⟩ := h.blk b B c t hB k2
    have hs := hKB.same
    have hc := hKB.cells
    refine ⟨vs', rest, by rw [← hs.2.1]; exact m1, m2, ?_, fun hr => m4 (by rw [hs.2.2.2.2]; exact hr)⟩
    rw [hc.1] at m3
    exact m3.unmap fun a ha x hx => crel.ren hk (List.all_eq_true.1 hc.2 a ha) hx
theorem FRel.gc {n : Nat} {fr fr' : Fr} {a : Act} (hk : keepL bs σ bs σ') (hf : ∀ t, fr' t = .junk ∨ (fr t = ren3 bs (fr' t) ∧ bel3 bs.length (fr' t) = true)) (h : FRel ι σ n fr a) : FRel (locT ι bs) σ' n fr' a := by
  refine ⟨h.1, fun t => ?_⟩
  rcases hf t with e | ⟨e, hb⟩
  · rw [e]; exact trivial
  · have := h.2 t
    rw [e] at this
    exact rel3.ren hk hb this
end
theorem frL_gc {bs : List Nat} {fr : Fr} : ∀ {l : List (Nat × AV)}, agr (l.map fun p => (p.1, ren3 bs p.2)) fr → l.all (fun p => bel3 bs.length p.2) = true → ∀ t, frL l t = .junk ∨ (fr t = ren3 bs (frL l t) ∧ bel3 bs.length (frL l t) = true)
  | [], _, _, t => .inl rfl
  | p :: l, h, hb, t => by
    rw [List.map_cons, agr_cons] at h
    rw [List.all_cons, Bool.and_eq_true] at hb
    rw [frL_cons]
    cases he : Nat.beq t p.1 with
    | true =>
      have e : t = p.1 := Nat.eq_of_beq_eq_true he
      right
      refine ⟨?_, hb.1⟩
      rw [e, h.1]; rfl
    | false => exact frL_gc h.2 hb.2 t
/-- between two parts: what is forgotten is forgotten, the rest is told -/
structure CutAt (b0 : Nat) (M : Fr → List Blk → Prop) (fr : Fr) (σ : List Blk) : Prop where
  ex : ∃ fr'' σ'', (Forget b0 fr σ fr'' σ'' ∨ ∃ bs, Gc b0 fr σ fr'' σ'' bs) ∧ M fr'' σ''
def cutP (b0 : Nat) (M : Fr → List Blk → Prop) (Q : CPost) : CPost := fun e fr σ => match e with
  | .normal => CutAt b0 M fr σ
  | e => Q e fr σ
def liveM {X : Type} (sh : X → List (Nat × AV)) (st : X → List Blk) (inv : X → Prop) (fr : Fr) (σ : List Blk) : Prop := ∃ x, fr = frL (sh x) ∧ σ = st x ∧ inv x
theorem CutAt.go {X : Type} {b0 : Nat} {sh : X → List (Nat × AV)} {st : X → List Blk} {inv : X → Prop} {fr : Fr} {σ : List Blk} (x : X) (ha : agr (sh x) fr) (hg : Fgt b0 (sh x) σ (st x)) (hi : inv x) : CutAt b0 (liveM sh st inv) fr σ :=
  ⟨_, _, .inl (hg.forget ha), x, rfl, rfl, hi⟩
/-- the blocks bs are kept alone, under new numbers -/
theorem CutAt.gc {X : Type} {sh : X → List (Nat × AV)} {st : X → List Blk} {inv : X → Prop} {fr : Fr} {σ : List Blk} (bs : List Nat) (nd : bs.Nodup) (x : X) (ha : agr ((sh x).map fun p => (p.1, ren3 bs p.2)) fr) (hb : (sh x).all (fun p => bel3 bs.length p.2) = true) (hk : keepL bs σ bs (st x)) (hi : inv x) : CutAt 0 (liveM sh st inv) fr σ :=
  ⟨_, _, .inr ⟨bs, rfl, nd, hk, frL_gc ha hb⟩, x, rfl, rfl, hi⟩
/-- resolved code with cuts -/
inductive RWs (P : Program) (W0 : World) (b0 : Nat) : RC → Fr → List Blk → CPost → Prop
  | base {r : RC} {fr : Fr} {σ : List Blk} {Q : CPost} (h : Closed σ.length σ → rW P W0 b0 r fr σ Q) : RWs P W0 b0 r fr σ Q
  | cut {r : RC} {fr : Fr} {σ : List Blk} {Q : CPost} (n : Nat) (M : Fr → List Blk → Prop) (hs : seqN n r = true) (h1 : Closed σ.length σ → rW P W0 b0 (headN n r) fr σ (cutP b0 M Q)) (h2 : ∀ fr' σ', M fr' σ' → RWs P W0 b0 (tailN n r) fr' σ' Q) : RWs P W0 b0 r fr σ Q
theorem RWs.live {P : Program} {W0 : World} {b0 : Nat} {r : RC} {fr : Fr} {σ : List Blk} {Q : CPost} {X : Type} (n : Nat) (sh : X → List (Nat × AV)) (st : X → List Blk) (inv : X → Prop) (hs : seqN n r = true)
    (h1 : Closed σ.length σ → rW P W0 b0 (headN n r) fr σ (cutP b0 (liveM sh st inv) Q)) (h2 : ∀ x, inv x → RWs P W0 b0 (tailN n r) (frL (sh x)) (st x) Q) : RWs P W0 b0 r fr σ Q :=
  .cut n _ hs h1 fun fr' σ' ⟨x, e1, e2, hx⟩ => e1 ▸ e2 ▸ h2 x hx
theorem RWs.closed {P : Program} {W0 : World} {b0 : Nat} {r : RC} {fr : Fr} {σ : List Blk} {Q : CPost} (h : Closed σ.length σ → RWs P W0 b0 r fr σ Q) : RWs P W0 b0 r fr σ Q := by
  by_cases hc : Closed σ.length σ
  · exact h hc
  · exact .base fun h' => absurd h' hc
section
variable {P : Program} {W0 : World} {ι0 : Loc} {σ0 : List Blk} {n : Nat} {cuts : Nat → Nat}
theorem comp_seq_inv {c : Go.Code} {a b : RC} (h : comp P n cuts c = some (.seq a b)) : ∃ x y, c = .seq x y ∧ comp P n cuts x = some a ∧ comp P n cuts y = some b := by
  cases c with
  | seq x y =>
    unfold comp at h
    split at h
    · rename_i rx ry h1 h2
      cases h
      exact ⟨x, y, rfl, h1, h2⟩
    · cases h
  | region id ops draw =>
    exfalso
    unfold comp at h
    rcases orDead_inv h with h | h
    · cases h
    repeat' split at h
    all_goals first | (cases h; done) | (obtain ⟨_, _, h⟩ := Option.map_eq_some_iff.1 h; cases h)
  | block id c => exfalso; unfold comp at h; obtain ⟨_, _, h⟩ := Option.map_eq_some_iff.1 h; cases h
  | scope c => exfalso; unfold comp at h; obtain ⟨_, _, h⟩ := Option.map_eq_some_iff.1 h; cases h
  | loop c => exfalso; unfold comp at h; obtain ⟨_, _, h⟩ := Option.map_eq_some_iff.1 h; cases h
  | cond c x y => exfalso; unfold comp at h; split at h <;> cases h
  | _ => exfalso; unfold comp at h; cases h
theorem cut_sound (hm : P.follows .mixedOrders = true) (hl0 : ι0.length = σ0.length) {M : Fr → List Blk → Prop} {Q : CPost} : ∀ (k : Nat) (r : RC) (c : Go.Code) (fr : Fr) (σ : List Blk) (ι : Loc) (a : Act) (w : World) (ds : List Deferred),
    seqN k r = true → comp P n cuts c = some r → rW P W0 σ0.length (headN k r) fr σ (cutP σ0.length M Q) → HRel W0 ι σ w → FRel ι σ n fr a → Ext ι0 σ0 ι σ → a.defers = ds →
    (∀ (c' : Go.Code) (fr' : Fr) (σ' : List Blk) (ι' : Loc) (a' : Act) (w' : World), M fr' σ' → comp P n cuts c' = some (tailN k r) → HRel W0 ι' σ' w' → FRel ι' σ' n fr' a' → Ext ι0 σ0 ι' σ' → a'.defers = ds → c'.wp P (Lift W0 ι0 σ0 n ds Q) a' w') →
    c.wp P (Lift W0 ι0 σ0 n ds Q) a w
  | 0, r, c, fr, σ, ι, a, w, ds, hs, hc, h, hh, hf, hx, hd, hk => by
    obtain ⟨fr'', σ'', hfo, hM⟩ := CutAt.ex (show CutAt σ0.length M fr σ from h)
    rcases hfo with hfo | ⟨bs, hfo⟩
    · obtain ⟨ι1, hh1, hf1, hx1⟩ := hf.forget hfo hh hx hl0
      exact hk c fr'' σ'' ι1 a w hM hc hh1 hf1 hx1 hd
    · have e0 : σ0 = [] := List.eq_nil_of_length_eq_zero hfo.z
      refine hk c fr'' σ'' _ a w hM hc (hh.gc hfo.nd hfo.blk) (FRel.gc hfo.blk hfo.slots hf) ⟨?_, fun i B B' hB => ?_, fun i B B' hB => ?_⟩ hd
      · rw [e0]; exact Nat.zero_le _
      · rw [e0] at hB; simp at hB
      · rw [e0] at hB; simp at hB
  | k + 1, r, c, fr, σ, ι, a, w, ds, hs, hc, h, hh, hf, hx, hd, hk => by
    cases r with
    | seq ra rb =>
      obtain ⟨x, y, rfl, h1, h2⟩ := comp_seq_inv hc
      refine wp_seq (wp_mono (comp_sound hm hl0 x ra _ fr σ ι a w ds h1 h hh hf hx hd) fun e a' w' hq => ?_)
      cases e with
      | normal =>
        obtain ⟨ι', σ', fr', hk', hh', hf', hx', hd'⟩ := hq
        exact cut_sound hm hl0 k rb y fr' σ' ι' a' w' ds hs h2 hk' hh' hf' hx' hd' hk
      | _ => exact hq
    | _ => cases hs
theorem RWs.sound (hm : P.follows .mixedOrders = true) (hl0 : ι0.length = σ0.length) {r : RC} {fr : Fr} {σ : List Blk} {Q : CPost} (h : RWs P W0 σ0.length r fr σ Q) : ∀ (c : Go.Code) (ι : Loc) (a : Act) (w : World) (ds : List Deferred),
    comp P n cuts c = some r → HRel W0 ι σ w → FRel ι σ n fr a → Ext ι0 σ0 ι σ → a.defers = ds → c.wp P (Lift W0 ι0 σ0 n ds Q) a w := by
  induction h with
  | base h => exact fun c ι a w ds hc hh hf hx hd => comp_sound hm hl0 c _ _ _ _ ι a w ds hc (h hh.closed) hh hf hx hd
  | cut k M hs h1 h2 ih => exact fun c ι a w ds hc hh hf hx hd => cut_sound hm hl0 k _ c _ _ ι a w ds hs hc (h1 hh.closed) hh hf hx hd fun c' fr' σ' ι' a' w' hM hc' hh' hf' hx' hd' => ih fr' σ' hM c' ι' a' w' ds hc' hh' hf' hx' hd'
end
section
variable {P : Program} {W0 : World} {σ : List Blk}
/-- **A function by its resolved code, in parts.** -/
theorem ACall.introS {g : FuncId} {fn : Func} {r : RC} {rs : List RR} {args : List AV} {K : Cont} {cuts : Nat → Nat} (hm : P.follows .mixedOrders = true) (hf : P.funcs[g]? = some fn) (hname : (fn.name == "runtime.NumGoroutine") = false)
    (hc : (fn.body.bind fun c => comp P fn.ntmps cuts c) = some r) (hrs : compRes P fn.results.toList = some rs) (hn : args.length ≤ fn.ntmps)
    (h : RWs P W0 σ.length r (initFr args) σ (finP W0 rs σ.length K)) : ACall P W0 g args σ K := by
  obtain ⟨c, hb, hc⟩ := Option.bind_eq_some_iff.1 hc
  refine ⟨by simp [callOK, hf, hname, hb], fun ι w vs hh hr => ?_⟩
  refine calls_of_wp hf hb (wp_mono (RWs.sound (ι0 := ι) (σ0 := σ) hm hh.len h c ι _ w [] hc hh (rel_initFr hr hn) (Ext.refl _ _) rfl) fun e a' w' hq => ?_)
  obtain ⟨ι', σ', fr', hfin, hh', hf', hx', hd'⟩ := hq
  have key : resR W0 fr' σ' rs (fun vs => tupR vs fun v => FinR σ.length K v σ') → bodyPost P fn (fun e w' => ∃ v ι' σ' av, e = .returned v ∧ K av σ' ∧ HRel W0 ι' σ' w' ∧ Ext ι σ ι' σ' ∧ rel3 ι' σ' av v) .normal a' w' := by
    intro hres
    have hres' := resR_sound _ _ _ hrs hres
    obtain ⟨vs', xs, hv, hrr, hrun⟩ := run_resList hf' hh' _ _ hres'
    obtain ⟨v, hv1, hv2⟩ := tupR_sound hv
    have hmm : (fn.results.mapM (resOne a'.tmps)).run P w' = .ok xs.toArray w' := by
      rw [Array.mapM_eq_mapM_toList]
      simp only [Sem.run_map, hrun, Result.andThen_ok]
    have h0 : (results fn a'.tmps).run P w' = .ok (if h : xs.toArray.size = 1 then xs.toArray[0] else .tuple xs.toArray) w' := by
      rw [results_eq]
      simp only [Sem.run_bind, Sem.run_pure, hmm, Result.andThen_ok]
    have hx : ∃ x, (results fn a'.tmps).run P w' = .ok x w' ∧ rel3 ι' σ' v x := by
      unfold tupA at hv1
      split at hv1
      · rename_i u
        cases hv1
        obtain ⟨b, m, rfl, h1, h2⟩ := hrr.uncons
        obtain rfl := h2.nil_inv
        exact ⟨b, by rw [h0]; rfl, h1⟩
      · rename_i hne
        split at hv1
        · rename_i hall
          cases hv1
          have hl : xs.toArray.size ≠ 1 := by
            have := hrr.1
            intro h1
            simp at h1
            rw [h1] at this
            match vs', this with
            | [u], _ => exact hne u rfl
          rw [dif_neg hl] at h0
          exact ⟨_, h0, xs, rfl, hrr.mono' fun a ha b hab => rel2_of_rel3 (List.all_eq_true.1 hall a ha) hab⟩
        · cases hv1
    obtain ⟨x, hrun', hrel⟩ := hx
    refine ⟨hd', x, hrun', ?_⟩
    cases hv2 with
    | keep hk => exact ⟨x, ι', σ', v, rfl, hk, hh', hx', hrel⟩
    | drop k hbk hcl hbel hk => exact ⟨x, ι'.take k, σ'.take k, v, rfl, hk, hh'.take hcl, hx'.take hh.len hbk, hrel.take hbel⟩
  cases e with
  | normal => exact key hfin
  | ret => exact key hfin
  | _ => exact hfin.elim
end
section
variable {P : Program} {W0 : World} {σ : List Blk}
/-- of all new blocks some are kept, under new numbers -/
theorem ACall.only {g : FuncId} {args : List AV} {K0 K : Cont} (h : ACall P W0 g args [] K0) (hk : ∀ v S, K0 v S → ∃ (bs : List Nat) (Bs : List Blk) (v' : AV), bs.Nodup ∧ keepL bs S bs Bs ∧ v = ren3 bs v' ∧ bel3 bs.length v' = true ∧ K v' Bs) : ACall P W0 g args [] K := by
  refine ⟨h.ok, fun ι w vs hh hr => (h.run ι w vs hh hr).mono fun e w' ⟨v, ι', S, av, he, hk0, h3, h4, h5⟩ => ?_⟩
  obtain ⟨bs, Bs, v', hnd, hkl, rfl, hb, hK⟩ := hk _ _ hk0
  exact ⟨v, _, Bs, v', he, hK, h3.gc hnd hkl, ⟨Nat.zero_le _, fun i C C' hi => by simp at hi, fun i C C' hi => by simp at hi⟩, rel3.ren hkl hb h5⟩
end
end Go.Proofs.Ytkcbhdjhbnnlgaa.Abs
end

section
/- Contracts: the law of effects. -/
set_option linter.unusedVariables false
set_option linter.unusedSimpArgs false
set_option maxRecDepth 100000
set_option maxHeartbeats 40000000
namespace Go.Proofs.Ytkcbhdjhbnnlgaa
open Go Go.RowKit Go.Proofs.Ytkcbhdjhbnnlgaa.Abs
variable {W0 : World} {σ : List Blk}
theorem ef_lt {a b c d e f : Int} {xs ys : List (List Int)} (hg : planB a b c d e f xs ys = true) (hx : ∀ x ∈ xs, x.length = 6) (hy : ∀ x ∈ ys, x.length = 4) : runN (fsOf xs ys) 0 < 2 ^ 36 ∧ runN (fsOf xs ys) fullN < 2 ^ 36 := by
  obtain ⟨_, _, _, hxa, hya⟩ := planB_iff.1 hg
  have hf := fsOf_ok hx hy hxa hya
  exact ⟨runN_lt hf (by decide), runN_lt hf (by decide)⟩
theorem sameU {a b c d e f a' b' c' d' e' f' : Int} {xs ys xs' ys' : List (List Int)} (hg : planB a b c d e f xs ys = true) (hg' : planB a' b' c' d' e' f' xs' ys' = true) (hx : ∀ x ∈ xs, x.length = 6) (hy : ∀ x ∈ ys, x.length = 4) (hx' : ∀ x ∈ xs', x.length = 6) (hy' : ∀ x ∈ ys', x.length = 4) : sameR (planB a b c d e f xs ys) (planB a' b' c' d' e' f' xs' ys') xs ys xs' ys' = .tup [Bo (decide (efL xs ys = efL xs' ys')), Bo true] := by
  have l1 := ef_lt hg hx hy
  have l2 := ef_lt hg' hx' hy'
  unfold sameR
  rw [hg, hg', Bool.and_true, if_pos rfl]
  have e : (decide (((runN (fsOf xs ys) 0 : Nat) : Int) = (runN (fsOf xs' ys') 0 : Nat)) && (decide (((runN (fsOf xs ys) fullN : Nat) : Int) = (runN (fsOf xs' ys') fullN : Nat)) && true)) = decide (efL xs ys = efL xs' ys') := by
    rw [Bool.eq_iff_iff]
    simp only [Bool.and_eq_true, decide_eq_true_eq, Bool.and_true]
    rw [show (efL xs ys = efL xs' ys') ↔ _ from effN_eq l1.1 l1.2 l2.1 l2.2]
    constructor
    · rintro ⟨h1, h2⟩; exact ⟨by omega, by omega⟩
    · rintro ⟨h1, h2⟩; exact ⟨by omega, by omega⟩
  rw [e]
end Go.Proofs.Ytkcbhdjhbnnlgaa
end

section
/- Contracts: the law of effects, its middle (F). -/
set_option linter.unusedVariables false
set_option linter.unusedSimpArgs false
set_option maxRecDepth 100000
set_option maxHeartbeats 40000000
namespace Go.Proofs.Ytkcbhdjhbnnlgaa
open Go Go.RowKit Go.Proofs.Ytkcbhdjhbnnlgaa.Abs
variable {W0 : World} {σ : List Blk}
theorem efF_B4W0 (v : Value) (xs : List Int) (hcd : Code W0 v xs) {Q : CPost} (hE : RWs Try.prog W0 0 (tailN 17 r5) (frL [(0, .lit v), (5, Bo false)]) [] Q) : RWs Try.prog W0 0 (tailN 16 r5) (frL [(0, .lit v), (5, Bo false), (25, Bo false)]) [] Q := by
  refine RWs.live 1 (X := Unit) (fun _ => [(0, .lit v), (5, Bo false)]) (fun _ => []) (fun _ => True) rfl (fun hcl => ?_) (fun _ _ => hE)
  repeat' ((conv => whnf); first | (refine Exists.intro ([] : List Nat) ?_) | (refine And.intro rfl ?_) | (refine And.intro (by decide +kernel) ?_) | (refine And.intro trivial ?_) | (refine fS_mk ?_) | (refine Exists.intro _ (And.intro rfl (And.intro rfl (And.intro (Nat.le_of_ble_eq_true rfl) ?_)))) | (refine Exists.intro _ (And.intro rfl (And.intro rfl (And.intro rfl (And.intro (Nat.le_of_ble_eq_true rfl) ?_))))) | (refine And.intro (Exists.intro _ (And.intro rfl rfl)) ?_) | (exact fun hW => absurd hW (by decide +kernel)) | (intro hW; (try simp only [Bool.not_true, Bool.not_false, Bool.not_eq_true', Bool.not_eq_false', decide_eq_true_eq, decide_eq_false_iff_not, reduceCtorEq, Bool.true_eq_false, Bool.false_eq_true, mk_size, List.size_toArray, ByteArray.size_append, ByteArray.size_extract, List.length_cons, List.length_nil, ba_get, ba_empty, Int.toNat_natCast] at hW)) | (refine And.intro (?_ : _ → _) (?_ : _ → _)) | (refine FinR.drop 0 (Nat.zero_le _) (Closed.zero _) rfl ?_) | (refine FinR.keep ?_) | (refine And.intro (det3_agg rfl) ?_) | (refine fL_mk ?_) | (refine And.intro (by (try simp only [mk_size, List.size_toArray, ByteArray.size_append, ByteArray.size_extract, List.length_cons, List.length_nil]); omega) ?_) | (refine And.intro (by (try simp only [mk_size, List.size_toArray, ByteArray.size_append, ByteArray.size_extract, List.length_cons, List.length_nil, wrap64_eq]); omega) ?_) | fail)
  all_goals (try (exfalso; simp_all; done))
  exact CutAt.gc [] (by decide) () ⟨rfl, rfl, trivial⟩ rfl rfl trivial
theorem efF_B4W1 (s2 : Bool) (v : Value) (xs : List Int) (hcd : Code W0 v xs) {Q : CPost} (d : PD)  (hk : planB d.a1 d.a2 d.a3 d.a4 d.a5 d.a6 d.ss d.ts = true ∧ 0 ≤ d.k ∧ d.k + 2 ≤ d.ts.length) (hdd : decide (efL d.ss d.ts = efL d.ss (swL d.ts d.k.toNat)) = s2) (hE : RWs Try.prog W0 0 (tailN 17 r5) (frL [(0, .lit v), (5, Bo false)]) [] Q) : RWs Try.prog W0 0 (tailN 16 r5) (frL [(0, .lit v), (5, Bo false), (22, .ptr 2 0 0), (23, I d.k), (24, Bo s2), (25, Bo true)]) [shK d.ss d.ss.length, stK d.ts d.ts.length, plBx d.a1 d.a2 d.a3 d.a4 d.a5 d.a6 (.sl 0 d.ss.length 0 d.ss.length d.c1) (.sl 1 d.ts.length 0 d.ts.length d.c2) 67] Q := by
  refine RWs.live 1 (X := Unit) (fun _ => [(0, .lit v), (5, Bo false)]) (fun _ => []) (fun _ => True) rfl (fun hcl => ?_) (fun _ _ => hE)
  obtain ⟨z1, z2, z3, z4, z5, z6, kk, ss, ts, c1, c2, h6, h4, l1, l2⟩ := d
  dsimp only at hk hdd ⊢
  obtain ⟨hp, hk0, hk2⟩ := hk
  obtain ⟨k, rfl⟩ := Int.eq_ofNat_of_zero_le hk0
  rw [Int.toNat_natCast] at hdd
  have hk2' : k + 2 ≤ ts.length := by omega
  obtain ⟨u0, u1, u2, u3, hr0⟩ := row4x h4 (show k < ts.length by omega)
  obtain ⟨v0, v1, v2, v3, hr1⟩ := row4x h4 (show k + 1 < ts.length by omega)
  have ew : IntKind.i64.wrap ((k : Nat) + 1 : Int) = ((k + 1 : Nat) : Int) := wsucc' k (by omega)
  have ho0 : 0 + ((k : Nat) : Int).toNat * 4 = k * 4 := by rw [Int.toNat_natCast]; omega
  have ho1 : 0 + ((k + 1 : Nat) : Int).toNat * 4 = (k + 1) * 4 := by rw [Int.toNat_natCast]; omega
  have hsw := swL_eq hr0 hr1
  have hsw4 : ∀ x ∈ swL ts k, x.length = 4 := fun x h => h4 x (swL_mem hk2' h)
  obtain ⟨g1, g2, g3, hxa, hya⟩ := planB_iff.1 hp
  have hya' : (swL ts k).all (stOk ss.length) = true := List.all_eq_true.2 fun x h => List.all_eq_true.1 hya x (swL_mem hk2' h)
  have hpb : planB z1 z2 z3 z4 z5 z6 ss (swL ts k) = true := planB_iff.2 ⟨g1, g2, by rw [swL_len]; exact g3, hxa, hya'⟩
  have hsm := sameU hp hpb h6 h4 h6 hsw4
  have hlen : ts.length = (swL ts k).length := (swL_len ts k).symm
  have hC : jc ((ts.set k [v0, v1, v2, v3]).set (k + 1) [u0, u1, u2, u3]) = jc (swL ts k) := by rw [hsw]
  have h41 : ∀ x ∈ ts.set k [v0, v1, v2, v3], x.length = 4 := fun x h => (List.mem_or_eq_of_mem_set h).elim (h4 x) fun e => by rw [e]; rfl
  have hr1' : (ts.set k [v0, v1, v2, v3])[k + 1]? = some [v0, v1, v2, v3] := by rw [List.getElem?_set_ne (by omega)]; exact hr1
  have hj : (jc ts).length = ts.length * 4 := jc_len h4
  have hle : 0 + ts.length * 4 ≤ (stK ts ts.length).cells.length := by show 0 + ts.length * 4 ≤ (jc ts).length; omega
  have htk : List.take (ts.length * 4) (List.drop 0 (jc ts)) = jc ts := by rw [List.drop_zero, ← hj, List.take_length]
  have hl0 : 0 + ((k : Nat) : Int).toNat * 4 + 4 ≤ (stK ts ts.length).cells.length := by show 0 + ((k : Nat) : Int).toNat * 4 + 4 ≤ (jc ts).length; omega
  have hl1 : 0 + ((k + 1 : Nat) : Int).toNat * 4 + 4 ≤ (stK ts ts.length).cells.length := by show 0 + ((k + 1 : Nat) : Int).toNat * 4 + 4 ≤ (jc ts).length; omega
  have lv0 : mkAV true (List.take 4 (List.drop (0 + ((k : Nat) : Int).toNat * 4) (jc ts))) = StA u0 u1 u2 u3 := by rw [ho0, jc_rowB h4 hr0]; rfl
  have lv1 : mkAV true (List.take 4 (List.drop (0 + ((k + 1 : Nat) : Int).toNat * 4) (jc ts))) = StA v0 v1 v2 v3 := by rw [ho1, jc_rowB h4 hr1]; rfl
  rw [hdd] at hsm
  generalize swL ts k = sw at hsw4 hpb hsm hlen hC hya'
  clear hdd hsw
  cases s2
  all_goals
    repeat' ((conv => whnf); first | (rw [ew]) | (refine Exists.intro _ (And.intro rfl (And.intro rfl (And.intro hle ?_))); rw [htk]) | (refine Exists.intro _ (And.intro rfl (And.intro rfl (And.intro hl0 ?_))); rw [lv0]) | (refine Exists.intro _ (And.intro rfl (And.intro rfl (And.intro hl1 ?_))); rw [lv1]) | (refine Exists.intro ([] : List Nat) ?_) | (refine And.intro rfl ?_) | (refine And.intro (by decide +kernel) ?_) | (refine And.intro trivial ?_) | (refine fS_mk ?_) | (refine Exists.intro _ (And.intro rfl (And.intro rfl (And.intro rfl (And.intro rfl (And.intro rfl (And.intro rfl (And.intro (by decide) (And.intro rfl (And.intro hj (And.intro (by unfold maxLen; omega) (And.intro (by omega) (fun cap' hcap1 hcap2 => ?_)))))))))))); rw [Nat.zero_add ts.length]) | (refine st_rowB (l := ts) (r := 1) [v0, v1, v2, v3] ?_ h4 hr0 rfl ho0 ?_; exact rfl) | (refine st_rowB (l := ts.set k [v0, v1, v2, v3]) (r := 1) [u0, u1, u2, u3] ?_ h41 hr1' rfl ho1 ?_; exact rfl) | (refine d_SameEffects (h1 := sli_rows h6 rfl) (h2 := sli_rows h4 rfl) (g1 := sli_rows h6 rfl) (g2 := sli_rowsE hsw4 rfl hC hlen) (hx := h6) (hy := h4) (hx' := h6) (hy' := hsw4) (h0 := ?_) ..; rw [hsm]) | (refine Exists.intro _ (And.intro rfl (And.intro rfl (And.intro (Nat.le_of_ble_eq_true rfl) ?_)))) | (refine Exists.intro _ (And.intro rfl (And.intro rfl (And.intro rfl (And.intro (Nat.le_of_ble_eq_true rfl) ?_))))) | (refine And.intro (Exists.intro _ (And.intro rfl rfl)) ?_) | (exact fun hW => absurd hW (by decide +kernel)) | (intro hW; (try simp only [Bool.not_true, Bool.not_false, Bool.not_eq_true', Bool.not_eq_false', decide_eq_true_eq, decide_eq_false_iff_not, reduceCtorEq, Bool.true_eq_false, Bool.false_eq_true, mk_size, List.size_toArray, ByteArray.size_append, ByteArray.size_extract, List.length_cons, List.length_nil, ba_get, ba_empty, Int.toNat_natCast] at hW)) | (refine And.intro (?_ : _ → _) (?_ : _ → _)) | (refine FinR.drop 0 (Nat.zero_le _) (Closed.zero _) rfl ?_) | (refine FinR.keep ?_) | (refine And.intro (det3_agg rfl) ?_) | (refine fL_mk ?_) | (refine And.intro (by (try simp only [mk_size, List.size_toArray, ByteArray.size_append, ByteArray.size_extract, List.length_cons, List.length_nil]); omega) ?_) | (refine And.intro (by (try simp only [mk_size, List.size_toArray, ByteArray.size_append, ByteArray.size_extract, List.length_cons, List.length_nil, wrap64_eq]); omega) ?_) | fail)
    all_goals (try (exfalso; simp_all; done))
    exact CutAt.gc [] (by decide) () ⟨rfl, rfl, trivial⟩ rfl rfl trivial
theorem efF_B3W0 (s : Bool) (qa qb : List Int) (v : Value) (xs : List Int) (hcd : Code W0 v xs) {Q : CPost} (p q : PK) (hp : planB p.a1 p.a2 p.a3 p.a4 p.a5 p.a6 p.ss p.ts = true) (hq : planB q.a1 q.a2 q.a3 q.a4 q.a5 q.a6 q.ss q.ts = true)  (hqa' : efL p.ss p.ts = qa) (hqb' : efL q.ss q.ts = qb) (hdd : decide (qa = qb) = s) (hN : RWs Try.prog W0 0 (tailN 16 r5) (frL [(0, .lit v), (5, Bo false), (25, Bo false)]) [] Q) : RWs Try.prog W0 0 (tailN 15 r5) (frL [(0, .lit v), (5, Bo false), (16, .ptr 4 0 0), (17, .ptr 5 0 0), (18, Bo s), (19, Bo true), (25, Bo false)]) [shK p.ss p.r1, stK p.ts p.r2, shK q.ss q.r1, stK q.ts q.r2, plBx p.a1 p.a2 p.a3 p.a4 p.a5 p.a6 (.sl 0 p.r1 0 p.ss.length p.c1) (.sl 1 p.r2 0 p.m2 p.c2) 67, plBx q.a1 q.a2 q.a3 q.a4 q.a5 q.a6 (.sl 2 q.r1 0 q.ss.length q.c1) (.sl 3 q.r2 0 q.m2 q.c2) 67] Q := by
  obtain ⟨p1, p2, p3, p4, p5, p6, ps, pt, pr1, pc1, pr2, pc2, pm2, rfl, ph6, ph4, pl1, pl2⟩ := p
  obtain ⟨q1, q2, q3, q4, q5, q6, qs, qt, qr1, qc1, qr2, qc2, qm2, rfl, qh6, qh4, ql1, ql2⟩ := q
  dsimp only at hp hq hqa' hqb' hN ⊢
  have hqa : qa.length = 36 := by rw [← hqa']; exact effN_len _ _ (Nat.le_refl _)
  have hqb : qb.length = 36 := by rw [← hqb']; exact effN_len _ _ (Nat.le_refl _)
  have hefa : efR p1 p2 p3 p4 p5 p6 ps pt = .tup [Pi qa, Bo true] := by unfold efR; rw [hp, ← hqa']; rfl
  have hefb : efR q1 q2 q3 q4 q5 q6 qs qt = .tup [Pi qb, Bo true] := by unfold efR; rw [hq, ← hqb']; rfl
  refine RWs.live 1 (X := Unit) (fun _ => [(0, .lit v), (5, Bo false), (25, Bo false)]) (fun _ => []) (fun _ => True) rfl (fun hcl => ?_) (fun _ _ => hN)
  clear hqa' hqb'
  cases s
  all_goals
    repeat' ((conv => whnf); first | (refine Exists.intro _ (And.intro rfl (And.intro rfl (And.intro (pic_len hqa) (And.intro (Nat.le_of_ble_eq_true rfl) ?_))))) | (refine Exists.intro _ (And.intro rfl (And.intro rfl (And.intro (pic_len hqb) (And.intro (Nat.le_of_ble_eq_true rfl) ?_))))) | (refine Exists.intro _ (And.intro rfl (And.intro rfl (And.intro (pic_rle hqa _) ?_))); rw [pic_res hqa _]) | (refine Exists.intro _ (And.intro rfl (And.intro rfl (And.intro (pic_rle hqb _) ?_))); rw [pic_res hqb _]) | (rw [lits_I, lits_I]) | (rw [eqC36b hqa hqb, hdd]) | (refine Exists.intro ([] : List Nat) ?_) | (refine And.intro rfl ?_) | (refine And.intro (by decide +kernel) ?_) | (refine And.intro trivial ?_) | (refine fS_mk ?_) | (refine d_EffectsOf (h1 := sli_rows ph6 rfl) (h2 := sli_rows ph4 rfl) (hx := ph6) (hy := ph4) (h0 := ?_) ..; rw [hefa]) | (refine d_EffectsOf (h1 := sli_rows qh6 rfl) (h2 := sli_rows qh4 rfl) (hx := qh6) (hy := qh4) (h0 := ?_) ..; rw [hefb]) | (refine Exists.intro _ (And.intro rfl (And.intro rfl (And.intro (Nat.le_of_ble_eq_true rfl) ?_)))) | (refine Exists.intro _ (And.intro rfl (And.intro rfl (And.intro rfl (And.intro (Nat.le_of_ble_eq_true rfl) ?_))))) | (refine And.intro (Exists.intro _ (And.intro rfl rfl)) ?_) | (exact fun hW => absurd hW (by decide +kernel)) | (intro hW; (try simp only [Bool.not_true, Bool.not_false, Bool.not_eq_true', Bool.not_eq_false', decide_eq_true_eq, decide_eq_false_iff_not, reduceCtorEq, Bool.true_eq_false, Bool.false_eq_true, mk_size, List.size_toArray, ByteArray.size_append, ByteArray.size_extract, List.length_cons, List.length_nil, ba_get, ba_empty, Int.toNat_natCast] at hW)) | (refine And.intro (?_ : _ → _) (?_ : _ → _)) | (refine FinR.drop 0 (Nat.zero_le _) (Closed.zero _) rfl ?_) | (refine FinR.keep ?_) | (refine And.intro (det3_agg rfl) ?_) | (refine fL_mk ?_) | (refine And.intro (by (try simp only [mk_size, List.size_toArray, ByteArray.size_append, ByteArray.size_extract, List.length_cons, List.length_nil]); omega) ?_) | (refine And.intro (by (try simp only [mk_size, List.size_toArray, ByteArray.size_append, ByteArray.size_extract, List.length_cons, List.length_nil, wrap64_eq]); omega) ?_) | fail)
    all_goals (try (exfalso; simp_all; done))
    exact CutAt.gc [] (by decide) () ⟨rfl, rfl, rfl, trivial⟩ rfl rfl trivial
theorem efF_B3W1 (s : Bool) (qa qb : List Int) (s2 : Bool) (v : Value) (xs : List Int) (hcd : Code W0 v xs) {Q : CPost} (p q : PK) (hp : planB p.a1 p.a2 p.a3 p.a4 p.a5 p.a6 p.ss p.ts = true) (hq : planB q.a1 q.a2 q.a3 q.a4 q.a5 q.a6 q.ss q.ts = true) (d : PD) (hk : planB d.a1 d.a2 d.a3 d.a4 d.a5 d.a6 d.ss d.ts = true ∧ 0 ≤ d.k ∧ d.k + 2 ≤ d.ts.length) (hqa' : efL p.ss p.ts = qa) (hqb' : efL q.ss q.ts = qb) (hdd : decide (qa = qb) = s) (hN : RWs Try.prog W0 0 (tailN 16 r5) (frL [(0, .lit v), (5, Bo false), (22, .ptr 2 0 0), (23, I d.k), (24, Bo s2), (25, Bo true)]) [shK d.ss d.ss.length, stK d.ts d.ts.length, plBx d.a1 d.a2 d.a3 d.a4 d.a5 d.a6 (.sl 0 d.ss.length 0 d.ss.length d.c1) (.sl 1 d.ts.length 0 d.ts.length d.c2) 67] Q) : RWs Try.prog W0 0 (tailN 15 r5) (frL [(0, .lit v), (5, Bo false), (16, .ptr 4 0 0), (17, .ptr 5 0 0), (18, Bo s), (19, Bo true), (22, .ptr 8 0 0), (23, I d.k), (24, Bo s2), (25, Bo true)]) [shK p.ss p.r1, stK p.ts p.r2, shK q.ss q.r1, stK q.ts q.r2, plBx p.a1 p.a2 p.a3 p.a4 p.a5 p.a6 (.sl 0 p.r1 0 p.ss.length p.c1) (.sl 1 p.r2 0 p.m2 p.c2) 67, plBx q.a1 q.a2 q.a3 q.a4 q.a5 q.a6 (.sl 2 q.r1 0 q.ss.length q.c1) (.sl 3 q.r2 0 q.m2 q.c2) 67, shK d.ss d.ss.length, stK d.ts d.ts.length, plBx d.a1 d.a2 d.a3 d.a4 d.a5 d.a6 (.sl 6 d.ss.length 0 d.ss.length d.c1) (.sl 7 d.ts.length 0 d.ts.length d.c2) 67] Q := by
  obtain ⟨p1, p2, p3, p4, p5, p6, ps, pt, pr1, pc1, pr2, pc2, pm2, rfl, ph6, ph4, pl1, pl2⟩ := p
  obtain ⟨q1, q2, q3, q4, q5, q6, qs, qt, qr1, qc1, qr2, qc2, qm2, rfl, qh6, qh4, ql1, ql2⟩ := q
  dsimp only at hp hq hqa' hqb' hN ⊢
  have hqa : qa.length = 36 := by rw [← hqa']; exact effN_len _ _ (Nat.le_refl _)
  have hqb : qb.length = 36 := by rw [← hqb']; exact effN_len _ _ (Nat.le_refl _)
  have hefa : efR p1 p2 p3 p4 p5 p6 ps pt = .tup [Pi qa, Bo true] := by unfold efR; rw [hp, ← hqa']; rfl
  have hefb : efR q1 q2 q3 q4 q5 q6 qs qt = .tup [Pi qb, Bo true] := by unfold efR; rw [hq, ← hqb']; rfl
  refine RWs.live 1 (X := Unit) (fun _ => [(0, .lit v), (5, Bo false), (22, .ptr 2 0 0), (23, I d.k), (24, Bo s2), (25, Bo true)]) (fun _ => [shK d.ss d.ss.length, stK d.ts d.ts.length, plBx d.a1 d.a2 d.a3 d.a4 d.a5 d.a6 (.sl 0 d.ss.length 0 d.ss.length d.c1) (.sl 1 d.ts.length 0 d.ts.length d.c2) 67]) (fun _ => True) rfl (fun hcl => ?_) (fun _ _ => hN)
  clear hqa' hqb'
  cases s
  all_goals
    repeat' ((conv => whnf); first | (refine Exists.intro _ (And.intro rfl (And.intro rfl (And.intro (pic_len hqa) (And.intro (Nat.le_of_ble_eq_true rfl) ?_))))) | (refine Exists.intro _ (And.intro rfl (And.intro rfl (And.intro (pic_len hqb) (And.intro (Nat.le_of_ble_eq_true rfl) ?_))))) | (refine Exists.intro _ (And.intro rfl (And.intro rfl (And.intro (pic_rle hqa _) ?_))); rw [pic_res hqa _]) | (refine Exists.intro _ (And.intro rfl (And.intro rfl (And.intro (pic_rle hqb _) ?_))); rw [pic_res hqb _]) | (rw [lits_I, lits_I]) | (rw [eqC36b hqa hqb, hdd]) | (refine Exists.intro ([] : List Nat) ?_) | (refine And.intro rfl ?_) | (refine And.intro (by decide +kernel) ?_) | (refine And.intro trivial ?_) | (refine fS_mk ?_) | (refine d_EffectsOf (h1 := sli_rows ph6 rfl) (h2 := sli_rows ph4 rfl) (hx := ph6) (hy := ph4) (h0 := ?_) ..; rw [hefa]) | (refine d_EffectsOf (h1 := sli_rows qh6 rfl) (h2 := sli_rows qh4 rfl) (hx := qh6) (hy := qh4) (h0 := ?_) ..; rw [hefb]) | (refine Exists.intro _ (And.intro rfl (And.intro rfl (And.intro (Nat.le_of_ble_eq_true rfl) ?_)))) | (refine Exists.intro _ (And.intro rfl (And.intro rfl (And.intro rfl (And.intro (Nat.le_of_ble_eq_true rfl) ?_))))) | (refine And.intro (Exists.intro _ (And.intro rfl rfl)) ?_) | (exact fun hW => absurd hW (by decide +kernel)) | (intro hW; (try simp only [Bool.not_true, Bool.not_false, Bool.not_eq_true', Bool.not_eq_false', decide_eq_true_eq, decide_eq_false_iff_not, reduceCtorEq, Bool.true_eq_false, Bool.false_eq_true, mk_size, List.size_toArray, ByteArray.size_append, ByteArray.size_extract, List.length_cons, List.length_nil, ba_get, ba_empty, Int.toNat_natCast] at hW)) | (refine And.intro (?_ : _ → _) (?_ : _ → _)) | (refine FinR.drop 0 (Nat.zero_le _) (Closed.zero _) rfl ?_) | (refine FinR.keep ?_) | (refine And.intro (det3_agg rfl) ?_) | (refine fL_mk ?_) | (refine And.intro (by (try simp only [mk_size, List.size_toArray, ByteArray.size_append, ByteArray.size_extract, List.length_cons, List.length_nil]); omega) ?_) | (refine And.intro (by (try simp only [mk_size, List.size_toArray, ByteArray.size_append, ByteArray.size_extract, List.length_cons, List.length_nil, wrap64_eq]); omega) ?_) | fail)
    all_goals (try (exfalso; simp_all; done))
    exact CutAt.gc [6, 7, 8] (by decide) () ⟨rfl, rfl, rfl, rfl, rfl, rfl, trivial⟩ rfl ⟨⟨_, rfl, .lits rfl (jc_lits _)⟩, ⟨_, rfl, .lits rfl (jc_lits _)⟩, ⟨_, rfl, .ren rfl rfl⟩, rfl⟩ trivial
def efF_s2 (v : Value) : Unit ⊕ PD → List (Nat × AV)
  | .inl _ => [(0, .lit v), (5, Bo false), (25, Bo false)]
  | .inr d => [(0, .lit v), (5, Bo false), (22, .ptr 2 0 0), (23, I d.k), (24, Bo (decide (efL d.ss d.ts = efL d.ss (swL d.ts d.k.toNat)))), (25, Bo true)]
def efF_b2 : Unit ⊕ PD → List Blk
  | .inl _ => []
  | .inr d => [shK d.ss d.ss.length, stK d.ts d.ts.length, plBx d.a1 d.a2 d.a3 d.a4 d.a5 d.a6 (.sl 0 d.ss.length 0 d.ss.length d.c1) (.sl 1 d.ts.length 0 d.ts.length d.c2) 67]
def efD : Unit ⊕ PD → Prop
  | .inl _ => True
  | .inr d => planB d.a1 d.a2 d.a3 d.a4 d.a5 d.a6 d.ss d.ts = true ∧ 0 ≤ d.k ∧ d.k + 2 ≤ d.ts.length
theorem efF_B2V0 (v : Value) (xs : List Int) (hcd : Code W0 v xs) {Q : CPost} (hE : RWs Try.prog W0 0 (tailN 17 r5) (frL [(0, .lit v), (5, Bo false)]) [] Q) : RWs Try.prog W0 0 (tailN 12 r5) (frL [(0, .lit v), (5, Bo false), (19, Bo false)]) [] Q := by
  refine RWs.live 4 (X := Unit ⊕ PD) (efF_s2 v) (efF_b2) efD rfl (fun hcl => ?_) ?_
  rotate_left
  · rintro (_ | d) hd
    · exact efF_B4W0 v xs hcd hE
    · exact efF_B4W1 _ v xs hcd d hd rfl hE
  repeat' ((conv => whnf); first | (refine Exists.intro ([] : List Nat) ?_) | (refine And.intro rfl ?_) | (refine And.intro (by decide +kernel) ?_) | (refine And.intro trivial ?_) | (refine fS_mk ?_) | (refine Exists.intro _ (And.intro rfl (And.intro rfl (And.intro (Nat.le_of_ble_eq_true rfl) ?_)))) | (refine Exists.intro _ (And.intro rfl (And.intro rfl (And.intro rfl (And.intro (Nat.le_of_ble_eq_true rfl) ?_))))) | (refine And.intro (Exists.intro _ (And.intro rfl rfl)) ?_) | (exact fun hW => absurd hW (by decide +kernel)) | (intro hW; (try simp only [Bool.not_true, Bool.not_false, Bool.not_eq_true', Bool.not_eq_false', decide_eq_true_eq, decide_eq_false_iff_not, reduceCtorEq, Bool.true_eq_false, Bool.false_eq_true, mk_size, List.size_toArray, ByteArray.size_append, ByteArray.size_extract, List.length_cons, List.length_nil, ba_get, ba_empty, Int.toNat_natCast] at hW)) | (refine And.intro (?_ : _ → _) (?_ : _ → _)) | (refine FinR.drop 0 (Nat.zero_le _) (Closed.zero _) rfl ?_) | (refine FinR.keep ?_) | (refine And.intro (det3_agg rfl) ?_) | (refine fL_mk ?_) | (refine And.intro (by (try simp only [mk_size, List.size_toArray, ByteArray.size_append, ByteArray.size_extract, List.length_cons, List.length_nil]); omega) ?_) | (refine And.intro (by (try simp only [mk_size, List.size_toArray, ByteArray.size_append, ByteArray.size_extract, List.length_cons, List.length_nil, wrap64_eq]); omega) ?_) | fail)
  refine d_DrawCanSwap (hcd := hcd) (h0 := fun d => ?_) ..
  have hl1 : d.ss.length ≤ 1048576 := by have := d.l1; omega
  have hl2 : d.ts.length ≤ 1048576 := by have := d.l2; omega
  by_cases hck : planB d.a1 d.a2 d.a3 d.a4 d.a5 d.a6 d.ss d.ts = true ∧ 0 ≤ d.k ∧ d.k + 2 ≤ d.ts.length
  · have hcn : canR d.a1 d.a2 d.a3 d.a4 d.a5 d.a6 d.ss d.ts d.k = .tup [Bo (decide (efL d.ss d.ts = efL d.ss (swL d.ts d.k.toNat))), Bo true] := by unfold canR; rw [if_pos hck]
    generalize hdd : decide (efL d.ss d.ts = efL d.ss (swL d.ts d.k.toNat)) = s at hcn
    cases s
    all_goals
      repeat' ((conv => whnf); first | (refine Exists.intro ([] : List Nat) ?_) | (refine And.intro rfl ?_) | (refine And.intro (by decide +kernel) ?_) | (refine And.intro trivial ?_) | (refine fS_mk ?_) | (refine d_sCanSwap (h1 := sli_rows d.h6 rfl) (h2 := sli_rows d.h4 rfl) (n1 := sl_nn) (n2 := sl_nn) (hx := d.h6) (hy := d.h4) (hl := hl1) (hl2 := hl2) (h0 := ?_) ..; rw [hcn]) | (refine d_CanSwap (h1 := sli_rows d.h6 rfl) (h2 := sli_rows d.h4 rfl) (hx := d.h6) (hy := d.h4) (h0 := ?_) ..; rw [hcn]) | (refine Exists.intro _ (And.intro rfl (And.intro rfl (And.intro (Nat.le_of_ble_eq_true rfl) ?_)))) | (refine Exists.intro _ (And.intro rfl (And.intro rfl (And.intro rfl (And.intro (Nat.le_of_ble_eq_true rfl) ?_))))) | (refine And.intro (Exists.intro _ (And.intro rfl rfl)) ?_) | (exact fun hW => absurd hW (by decide +kernel)) | (intro hW; (try simp only [Bool.not_true, Bool.not_false, Bool.not_eq_true', Bool.not_eq_false', decide_eq_true_eq, decide_eq_false_iff_not, reduceCtorEq, Bool.true_eq_false, Bool.false_eq_true, mk_size, List.size_toArray, ByteArray.size_append, ByteArray.size_extract, List.length_cons, List.length_nil, ba_get, ba_empty, Int.toNat_natCast] at hW)) | (refine And.intro (?_ : _ → _) (?_ : _ → _)) | (refine FinR.drop 0 (Nat.zero_le _) (Closed.zero _) rfl ?_) | (refine FinR.keep ?_) | (refine And.intro (det3_agg rfl) ?_) | (refine fL_mk ?_) | (refine And.intro (by (try simp only [mk_size, List.size_toArray, ByteArray.size_append, ByteArray.size_extract, List.length_cons, List.length_nil]); omega) ?_) | (refine And.intro (by (try simp only [mk_size, List.size_toArray, ByteArray.size_append, ByteArray.size_extract, List.length_cons, List.length_nil, wrap64_eq]); omega) ?_) | fail)
      all_goals (try (exfalso; simp_all; done))
      exact CutAt.gc [0, 1, 2] (by decide) (.inr d) ⟨rfl, rfl, rfl, rfl, (congrArg Bo hdd).symm, rfl, trivial⟩ rfl ⟨⟨_, rfl, .lits rfl (jc_lits _)⟩, ⟨_, rfl, .lits rfl (jc_lits _)⟩, ⟨_, rfl, .ren rfl rfl⟩, rfl⟩ hck
  · have hcn : canR d.a1 d.a2 d.a3 d.a4 d.a5 d.a6 d.ss d.ts d.k = .tup [Bo false, Bo false] := by unfold canR; rw [if_neg hck]
    repeat' ((conv => whnf); first | (refine Exists.intro ([] : List Nat) ?_) | (refine And.intro rfl ?_) | (refine And.intro (by decide +kernel) ?_) | (refine And.intro trivial ?_) | (refine fS_mk ?_) | (refine d_sCanSwap (h1 := sli_rows d.h6 rfl) (h2 := sli_rows d.h4 rfl) (n1 := sl_nn) (n2 := sl_nn) (hx := d.h6) (hy := d.h4) (hl := hl1) (hl2 := hl2) (h0 := ?_) ..; rw [hcn]) | (refine d_CanSwap (h1 := sli_rows d.h6 rfl) (h2 := sli_rows d.h4 rfl) (hx := d.h6) (hy := d.h4) (h0 := ?_) ..; rw [hcn]) | (refine Exists.intro _ (And.intro rfl (And.intro rfl (And.intro (Nat.le_of_ble_eq_true rfl) ?_)))) | (refine Exists.intro _ (And.intro rfl (And.intro rfl (And.intro rfl (And.intro (Nat.le_of_ble_eq_true rfl) ?_))))) | (refine And.intro (Exists.intro _ (And.intro rfl rfl)) ?_) | (exact fun hW => absurd hW (by decide +kernel)) | (intro hW; (try simp only [Bool.not_true, Bool.not_false, Bool.not_eq_true', Bool.not_eq_false', decide_eq_true_eq, decide_eq_false_iff_not, reduceCtorEq, Bool.true_eq_false, Bool.false_eq_true, mk_size, List.size_toArray, ByteArray.size_append, ByteArray.size_extract, List.length_cons, List.length_nil, ba_get, ba_empty, Int.toNat_natCast] at hW)) | (refine And.intro (?_ : _ → _) (?_ : _ → _)) | (refine FinR.drop 0 (Nat.zero_le _) (Closed.zero _) rfl ?_) | (refine FinR.keep ?_) | (refine And.intro (det3_agg rfl) ?_) | (refine fL_mk ?_) | (refine And.intro (by (try simp only [mk_size, List.size_toArray, ByteArray.size_append, ByteArray.size_extract, List.length_cons, List.length_nil]); omega) ?_) | (refine And.intro (by (try simp only [mk_size, List.size_toArray, ByteArray.size_append, ByteArray.size_extract, List.length_cons, List.length_nil, wrap64_eq]); omega) ?_) | fail)
    all_goals (try (exfalso; simp_all; done))
    exact CutAt.gc [] (by decide) (.inl ()) ⟨rfl, rfl, rfl, trivial⟩ rfl rfl trivial
def efF_s3 (v : Value) (p q : PK) : Unit ⊕ PD → List (Nat × AV)
  | .inl _ => [(0, .lit v), (5, Bo false), (16, .ptr 4 0 0), (17, .ptr 5 0 0), (18, Bo (decide (efL p.ss p.ts = efL q.ss q.ts))), (19, Bo true), (25, Bo false)]
  | .inr d => [(0, .lit v), (5, Bo false), (16, .ptr 4 0 0), (17, .ptr 5 0 0), (18, Bo (decide (efL p.ss p.ts = efL q.ss q.ts))), (19, Bo true), (22, .ptr 8 0 0), (23, I d.k), (24, Bo (decide (efL d.ss d.ts = efL d.ss (swL d.ts d.k.toNat)))), (25, Bo true)]
def efF_b3 (p q : PK) : Unit ⊕ PD → List Blk
  | .inl _ => [shK p.ss p.r1, stK p.ts p.r2, shK q.ss q.r1, stK q.ts q.r2, plBx p.a1 p.a2 p.a3 p.a4 p.a5 p.a6 (.sl 0 p.r1 0 p.ss.length p.c1) (.sl 1 p.r2 0 p.m2 p.c2) 67, plBx q.a1 q.a2 q.a3 q.a4 q.a5 q.a6 (.sl 2 q.r1 0 q.ss.length q.c1) (.sl 3 q.r2 0 q.m2 q.c2) 67]
  | .inr d => [shK p.ss p.r1, stK p.ts p.r2, shK q.ss q.r1, stK q.ts q.r2, plBx p.a1 p.a2 p.a3 p.a4 p.a5 p.a6 (.sl 0 p.r1 0 p.ss.length p.c1) (.sl 1 p.r2 0 p.m2 p.c2) 67, plBx q.a1 q.a2 q.a3 q.a4 q.a5 q.a6 (.sl 2 q.r1 0 q.ss.length q.c1) (.sl 3 q.r2 0 q.m2 q.c2) 67, shK d.ss d.ss.length, stK d.ts d.ts.length, plBx d.a1 d.a2 d.a3 d.a4 d.a5 d.a6 (.sl 6 d.ss.length 0 d.ss.length d.c1) (.sl 7 d.ts.length 0 d.ts.length d.c2) 67]
theorem efF_B2V1 (v : Value) (xs : List Int) (hcd : Code W0 v xs) {Q : CPost} (p q : PK) (hp : planB p.a1 p.a2 p.a3 p.a4 p.a5 p.a6 p.ss p.ts = true) (hq : planB q.a1 q.a2 q.a3 q.a4 q.a5 q.a6 q.ss q.ts = true) (hE : RWs Try.prog W0 0 (tailN 17 r5) (frL [(0, .lit v), (5, Bo false)]) [] Q) : RWs Try.prog W0 0 (tailN 12 r5) (frL [(0, .lit v), (5, Bo false), (16, .ptr 4 0 0), (17, .ptr 5 0 0), (18, Bo (decide (efL p.ss p.ts = efL q.ss q.ts))), (19, Bo true)]) [shK p.ss p.r1, stK p.ts p.r2, shK q.ss q.r1, stK q.ts q.r2, plBx p.a1 p.a2 p.a3 p.a4 p.a5 p.a6 (.sl 0 p.r1 0 p.ss.length p.c1) (.sl 1 p.r2 0 p.m2 p.c2) 67, plBx q.a1 q.a2 q.a3 q.a4 q.a5 q.a6 (.sl 2 q.r1 0 q.ss.length q.c1) (.sl 3 q.r2 0 q.m2 q.c2) 67] Q := by
  refine RWs.live 3 (X := Unit ⊕ PD) (efF_s3 v p q) (efF_b3 p q) efD rfl (fun hcl => ?_) ?_
  rotate_left
  · rintro (_ | d) hd
    · exact efF_B3W0 _ _ _ v xs hcd p q hp hq rfl rfl rfl (efF_B4W0 v xs hcd hE)
    · exact efF_B3W1 _ _ _ _ v xs hcd p q hp hq d hd rfl rfl rfl (efF_B4W1 _ v xs hcd d hd rfl hE)
  repeat' ((conv => whnf); first | (refine Exists.intro ([] : List Nat) ?_) | (refine And.intro rfl ?_) | (refine And.intro (by decide +kernel) ?_) | (refine And.intro trivial ?_) | (refine fS_mk ?_) | (refine Exists.intro _ (And.intro rfl (And.intro rfl (And.intro (Nat.le_of_ble_eq_true rfl) ?_)))) | (refine Exists.intro _ (And.intro rfl (And.intro rfl (And.intro rfl (And.intro (Nat.le_of_ble_eq_true rfl) ?_))))) | (refine And.intro (Exists.intro _ (And.intro rfl rfl)) ?_) | (exact fun hW => absurd hW (by decide +kernel)) | (intro hW; (try simp only [Bool.not_true, Bool.not_false, Bool.not_eq_true', Bool.not_eq_false', decide_eq_true_eq, decide_eq_false_iff_not, reduceCtorEq, Bool.true_eq_false, Bool.false_eq_true, mk_size, List.size_toArray, ByteArray.size_append, ByteArray.size_extract, List.length_cons, List.length_nil, ba_get, ba_empty, Int.toNat_natCast] at hW)) | (refine And.intro (?_ : _ → _) (?_ : _ → _)) | (refine FinR.drop 0 (Nat.zero_le _) (Closed.zero _) rfl ?_) | (refine FinR.keep ?_) | (refine And.intro (det3_agg rfl) ?_) | (refine fL_mk ?_) | (refine And.intro (by (try simp only [mk_size, List.size_toArray, ByteArray.size_append, ByteArray.size_extract, List.length_cons, List.length_nil]); omega) ?_) | (refine And.intro (by (try simp only [mk_size, List.size_toArray, ByteArray.size_append, ByteArray.size_extract, List.length_cons, List.length_nil, wrap64_eq]); omega) ?_) | fail)
  refine d_DrawCanSwap (hcd := hcd) (h0 := fun d => ?_) ..
  have hl1 : d.ss.length ≤ 1048576 := by have := d.l1; omega
  have hl2 : d.ts.length ≤ 1048576 := by have := d.l2; omega
  by_cases hck : planB d.a1 d.a2 d.a3 d.a4 d.a5 d.a6 d.ss d.ts = true ∧ 0 ≤ d.k ∧ d.k + 2 ≤ d.ts.length
  · have hcn : canR d.a1 d.a2 d.a3 d.a4 d.a5 d.a6 d.ss d.ts d.k = .tup [Bo (decide (efL d.ss d.ts = efL d.ss (swL d.ts d.k.toNat))), Bo true] := by unfold canR; rw [if_pos hck]
    generalize hdd : decide (efL d.ss d.ts = efL d.ss (swL d.ts d.k.toNat)) = s at hcn
    cases s
    all_goals
      repeat' ((conv => whnf); first | (refine Exists.intro ([] : List Nat) ?_) | (refine And.intro rfl ?_) | (refine And.intro (by decide +kernel) ?_) | (refine And.intro trivial ?_) | (refine fS_mk ?_) | (refine d_sCanSwap (h1 := sli_rows d.h6 rfl) (h2 := sli_rows d.h4 rfl) (n1 := sl_nn) (n2 := sl_nn) (hx := d.h6) (hy := d.h4) (hl := hl1) (hl2 := hl2) (h0 := ?_) ..; rw [hcn]) | (refine d_CanSwap (h1 := sli_rows d.h6 rfl) (h2 := sli_rows d.h4 rfl) (hx := d.h6) (hy := d.h4) (h0 := ?_) ..; rw [hcn]) | (refine Exists.intro _ (And.intro rfl (And.intro rfl (And.intro (Nat.le_of_ble_eq_true rfl) ?_)))) | (refine Exists.intro _ (And.intro rfl (And.intro rfl (And.intro rfl (And.intro (Nat.le_of_ble_eq_true rfl) ?_))))) | (refine And.intro (Exists.intro _ (And.intro rfl rfl)) ?_) | (exact fun hW => absurd hW (by decide +kernel)) | (intro hW; (try simp only [Bool.not_true, Bool.not_false, Bool.not_eq_true', Bool.not_eq_false', decide_eq_true_eq, decide_eq_false_iff_not, reduceCtorEq, Bool.true_eq_false, Bool.false_eq_true, mk_size, List.size_toArray, ByteArray.size_append, ByteArray.size_extract, List.length_cons, List.length_nil, ba_get, ba_empty, Int.toNat_natCast] at hW)) | (refine And.intro (?_ : _ → _) (?_ : _ → _)) | (refine FinR.drop 0 (Nat.zero_le _) (Closed.zero _) rfl ?_) | (refine FinR.keep ?_) | (refine And.intro (det3_agg rfl) ?_) | (refine fL_mk ?_) | (refine And.intro (by (try simp only [mk_size, List.size_toArray, ByteArray.size_append, ByteArray.size_extract, List.length_cons, List.length_nil]); omega) ?_) | (refine And.intro (by (try simp only [mk_size, List.size_toArray, ByteArray.size_append, ByteArray.size_extract, List.length_cons, List.length_nil, wrap64_eq]); omega) ?_) | fail)
      all_goals (try (exfalso; simp_all; done))
      exact CutAt.go (.inr d) ⟨rfl, rfl, rfl, rfl, rfl, rfl, rfl, rfl, (congrArg Bo hdd).symm, rfl, trivial⟩ (.keep rfl) hck
  · have hcn : canR d.a1 d.a2 d.a3 d.a4 d.a5 d.a6 d.ss d.ts d.k = .tup [Bo false, Bo false] := by unfold canR; rw [if_neg hck]
    repeat' ((conv => whnf); first | (refine Exists.intro ([] : List Nat) ?_) | (refine And.intro rfl ?_) | (refine And.intro (by decide +kernel) ?_) | (refine And.intro trivial ?_) | (refine fS_mk ?_) | (refine d_sCanSwap (h1 := sli_rows d.h6 rfl) (h2 := sli_rows d.h4 rfl) (n1 := sl_nn) (n2 := sl_nn) (hx := d.h6) (hy := d.h4) (hl := hl1) (hl2 := hl2) (h0 := ?_) ..; rw [hcn]) | (refine d_CanSwap (h1 := sli_rows d.h6 rfl) (h2 := sli_rows d.h4 rfl) (hx := d.h6) (hy := d.h4) (h0 := ?_) ..; rw [hcn]) | (refine Exists.intro _ (And.intro rfl (And.intro rfl (And.intro (Nat.le_of_ble_eq_true rfl) ?_)))) | (refine Exists.intro _ (And.intro rfl (And.intro rfl (And.intro rfl (And.intro (Nat.le_of_ble_eq_true rfl) ?_))))) | (refine And.intro (Exists.intro _ (And.intro rfl rfl)) ?_) | (exact fun hW => absurd hW (by decide +kernel)) | (intro hW; (try simp only [Bool.not_true, Bool.not_false, Bool.not_eq_true', Bool.not_eq_false', decide_eq_true_eq, decide_eq_false_iff_not, reduceCtorEq, Bool.true_eq_false, Bool.false_eq_true, mk_size, List.size_toArray, ByteArray.size_append, ByteArray.size_extract, List.length_cons, List.length_nil, ba_get, ba_empty, Int.toNat_natCast] at hW)) | (refine And.intro (?_ : _ → _) (?_ : _ → _)) | (refine FinR.drop 0 (Nat.zero_le _) (Closed.zero _) rfl ?_) | (refine FinR.keep ?_) | (refine And.intro (det3_agg rfl) ?_) | (refine fL_mk ?_) | (refine And.intro (by (try simp only [mk_size, List.size_toArray, ByteArray.size_append, ByteArray.size_extract, List.length_cons, List.length_nil]); omega) ?_) | (refine And.intro (by (try simp only [mk_size, List.size_toArray, ByteArray.size_append, ByteArray.size_extract, List.length_cons, List.length_nil, wrap64_eq]); omega) ?_) | fail)
    all_goals (try (exfalso; simp_all; done))
    exact CutAt.go (.inl ()) ⟨rfl, rfl, rfl, rfl, rfl, rfl, rfl, trivial⟩ (.drop 6 (Nat.zero_le _) rfl hcl rfl) trivial
def efF_s1 (v : Value) : Unit ⊕ (PK × PK) → List (Nat × AV)
  | .inl _ => [(0, .lit v), (5, Bo false), (19, Bo false)]
  | .inr (p, q) => [(0, .lit v), (5, Bo false), (16, .ptr 4 0 0), (17, .ptr 5 0 0), (18, Bo (decide (efL p.ss p.ts = efL q.ss q.ts))), (19, Bo true)]
def efF_b1 : Unit ⊕ (PK × PK) → List Blk
  | .inl _ => []
  | .inr (p, q) => [shK p.ss p.r1, stK p.ts p.r2, shK q.ss q.r1, stK q.ts q.r2, plBx p.a1 p.a2 p.a3 p.a4 p.a5 p.a6 (.sl 0 p.r1 0 p.ss.length p.c1) (.sl 1 p.r2 0 p.m2 p.c2) 67, plBx q.a1 q.a2 q.a3 q.a4 q.a5 q.a6 (.sl 2 q.r1 0 q.ss.length q.c1) (.sl 3 q.r2 0 q.m2 q.c2) 67]
def efP : Unit ⊕ (PK × PK) → Prop
  | .inl _ => True
  | .inr (p, q) => planB p.a1 p.a2 p.a3 p.a4 p.a5 p.a6 p.ss p.ts = true ∧ planB q.a1 q.a2 q.a3 q.a4 q.a5 q.a6 q.ss q.ts = true
theorem efF_B1 (v : Value) (xs : List Int) (hcd : Code W0 v xs) {Q : CPost} (hE : RWs Try.prog W0 0 (tailN 17 r5) (frL [(0, .lit v), (5, Bo false)]) [] Q) : RWs Try.prog W0 0 (tailN 9 r5) (frL [(0, .lit v), (5, Bo false)]) [] Q := by
  refine RWs.live 3 (X := Unit ⊕ (PK × PK)) (efF_s1 v) (efF_b1) efP rfl (fun hcl => ?_) ?_
  rotate_left
  · rintro (_ | ⟨p, q⟩) hpq
    · exact efF_B2V0 v xs hcd hE
    · exact efF_B2V1 v xs hcd p q hpq.1 hpq.2 hE
  repeat' ((conv => whnf); first | (refine Exists.intro ([] : List Nat) ?_) | (refine And.intro rfl ?_) | (refine And.intro (by decide +kernel) ?_) | (refine And.intro trivial ?_) | (refine fS_mk ?_) | (refine Exists.intro _ (And.intro rfl (And.intro rfl (And.intro (Nat.le_of_ble_eq_true rfl) ?_)))) | (refine Exists.intro _ (And.intro rfl (And.intro rfl (And.intro rfl (And.intro (Nat.le_of_ble_eq_true rfl) ?_))))) | (refine And.intro (Exists.intro _ (And.intro rfl rfl)) ?_) | (exact fun hW => absurd hW (by decide +kernel)) | (intro hW; (try simp only [Bool.not_true, Bool.not_false, Bool.not_eq_true', Bool.not_eq_false', decide_eq_true_eq, decide_eq_false_iff_not, reduceCtorEq, Bool.true_eq_false, Bool.false_eq_true, mk_size, List.size_toArray, ByteArray.size_append, ByteArray.size_extract, List.length_cons, List.length_nil, ba_get, ba_empty, Int.toNat_natCast] at hW)) | (refine And.intro (?_ : _ → _) (?_ : _ → _)) | (refine FinR.drop 0 (Nat.zero_le _) (Closed.zero _) rfl ?_) | (refine FinR.keep ?_) | (refine And.intro (det3_agg rfl) ?_) | (refine fL_mk ?_) | (refine And.intro (by (try simp only [mk_size, List.size_toArray, ByteArray.size_append, ByteArray.size_extract, List.length_cons, List.length_nil]); omega) ?_) | (refine And.intro (by (try simp only [mk_size, List.size_toArray, ByteArray.size_append, ByteArray.size_extract, List.length_cons, List.length_nil, wrap64_eq]); omega) ?_) | fail)
  refine d_DrawSame (hcd := hcd) (h0 := fun p q => ?_) ..
  obtain ⟨p1, p2, p3, p4, p5, p6, ps, pt, pr1, pc1, pr2, pc2, pm2, rfl, ph6, ph4, pl1, pl2⟩ := p
  obtain ⟨q1, q2, q3, q4, q5, q6, qs, qt, qr1, qc1, qr2, qc2, qm2, rfl, qh6, qh4, ql1, ql2⟩ := q
  rcases hpq : planB p1 p2 p3 p4 p5 p6 ps pt && planB q1 q2 q3 q4 q5 q6 qs qt with _ | _
  · have hsm : sameR (planB p1 p2 p3 p4 p5 p6 ps pt) (planB q1 q2 q3 q4 q5 q6 qs qt) ps pt qs qt = .tup [Bo false, Bo false] := by unfold sameR; rw [hpq]; rfl
    repeat' ((conv => whnf); first | (refine Exists.intro ([] : List Nat) ?_) | (refine And.intro rfl ?_) | (refine And.intro (by decide +kernel) ?_) | (refine And.intro trivial ?_) | (refine fS_mk ?_) | (refine d_sSameEffects (h1 := sli_rows ph6 rfl) (h2 := sli_rows ph4 rfl) (g1 := sli_rows qh6 rfl) (g2 := sli_rows qh4 rfl) (hx := ph6) (hy := ph4) (hx' := qh6) (hy' := qh4) (hl := by omega) (hl2 := by omega) (hl' := by omega) (hl2' := by omega) (h0 := ?_) ..; rw [hsm]) | (refine d_SameEffects (h1 := sli_rows ph6 rfl) (h2 := sli_rows ph4 rfl) (g1 := sli_rows qh6 rfl) (g2 := sli_rows qh4 rfl) (hx := ph6) (hy := ph4) (hx' := qh6) (hy' := qh4) (h0 := ?_) ..; rw [hsm]) | (refine Exists.intro _ (And.intro rfl (And.intro rfl (And.intro (Nat.le_of_ble_eq_true rfl) ?_)))) | (refine Exists.intro _ (And.intro rfl (And.intro rfl (And.intro rfl (And.intro (Nat.le_of_ble_eq_true rfl) ?_))))) | (refine And.intro (Exists.intro _ (And.intro rfl rfl)) ?_) | (exact fun hW => absurd hW (by decide +kernel)) | (intro hW; (try simp only [Bool.not_true, Bool.not_false, Bool.not_eq_true', Bool.not_eq_false', decide_eq_true_eq, decide_eq_false_iff_not, reduceCtorEq, Bool.true_eq_false, Bool.false_eq_true, mk_size, List.size_toArray, ByteArray.size_append, ByteArray.size_extract, List.length_cons, List.length_nil, ba_get, ba_empty, Int.toNat_natCast] at hW)) | (refine And.intro (?_ : _ → _) (?_ : _ → _)) | (refine FinR.drop 0 (Nat.zero_le _) (Closed.zero _) rfl ?_) | (refine FinR.keep ?_) | (refine And.intro (det3_agg rfl) ?_) | (refine fL_mk ?_) | (refine And.intro (by (try simp only [mk_size, List.size_toArray, ByteArray.size_append, ByteArray.size_extract, List.length_cons, List.length_nil]); omega) ?_) | (refine And.intro (by (try simp only [mk_size, List.size_toArray, ByteArray.size_append, ByteArray.size_extract, List.length_cons, List.length_nil, wrap64_eq]); omega) ?_) | fail)
    all_goals (try (exfalso; simp_all; done))
    exact CutAt.gc [] (by decide) (.inl ()) ⟨rfl, rfl, rfl, trivial⟩ rfl rfl trivial
  · have hp1 : planB p1 p2 p3 p4 p5 p6 ps pt = true := (by rw [Bool.and_eq_true] at hpq; exact hpq.1)
    have hp2 : planB q1 q2 q3 q4 q5 q6 qs qt = true := (by rw [Bool.and_eq_true] at hpq; exact hpq.2)
    have hsm := sameU hp1 hp2 ph6 ph4 qh6 qh4
    generalize hdd : decide (efL ps pt = efL qs qt) = s at hsm
    cases s
    all_goals
      repeat' ((conv => whnf); first | (refine Exists.intro ([] : List Nat) ?_) | (refine And.intro rfl ?_) | (refine And.intro (by decide +kernel) ?_) | (refine And.intro trivial ?_) | (refine fS_mk ?_) | (refine d_sSameEffects (h1 := sli_rows ph6 rfl) (h2 := sli_rows ph4 rfl) (g1 := sli_rows qh6 rfl) (g2 := sli_rows qh4 rfl) (hx := ph6) (hy := ph4) (hx' := qh6) (hy' := qh4) (hl := by omega) (hl2 := by omega) (hl' := by omega) (hl2' := by omega) (h0 := ?_) ..; rw [hsm]) | (refine d_SameEffects (h1 := sli_rows ph6 rfl) (h2 := sli_rows ph4 rfl) (g1 := sli_rows qh6 rfl) (g2 := sli_rows qh4 rfl) (hx := ph6) (hy := ph4) (hx' := qh6) (hy' := qh4) (h0 := ?_) ..; rw [hsm]) | (refine Exists.intro _ (And.intro rfl (And.intro rfl (And.intro (Nat.le_of_ble_eq_true rfl) ?_)))) | (refine Exists.intro _ (And.intro rfl (And.intro rfl (And.intro rfl (And.intro (Nat.le_of_ble_eq_true rfl) ?_))))) | (refine And.intro (Exists.intro _ (And.intro rfl rfl)) ?_) | (exact fun hW => absurd hW (by decide +kernel)) | (intro hW; (try simp only [Bool.not_true, Bool.not_false, Bool.not_eq_true', Bool.not_eq_false', decide_eq_true_eq, decide_eq_false_iff_not, reduceCtorEq, Bool.true_eq_false, Bool.false_eq_true, mk_size, List.size_toArray, ByteArray.size_append, ByteArray.size_extract, List.length_cons, List.length_nil, ba_get, ba_empty, Int.toNat_natCast] at hW)) | (refine And.intro (?_ : _ → _) (?_ : _ → _)) | (refine FinR.drop 0 (Nat.zero_le _) (Closed.zero _) rfl ?_) | (refine FinR.keep ?_) | (refine And.intro (det3_agg rfl) ?_) | (refine fL_mk ?_) | (refine And.intro (by (try simp only [mk_size, List.size_toArray, ByteArray.size_append, ByteArray.size_extract, List.length_cons, List.length_nil]); omega) ?_) | (refine And.intro (by (try simp only [mk_size, List.size_toArray, ByteArray.size_append, ByteArray.size_extract, List.length_cons, List.length_nil, wrap64_eq]); omega) ?_) | fail)
      all_goals (try (exfalso; simp_all; done))
      exact CutAt.go (.inr (⟨p1, p2, p3, p4, p5, p6, ps, pt, pr1, pc1, pr2, pc2, pt.length, rfl, ph6, ph4, pl1, pl2⟩, ⟨q1, q2, q3, q4, q5, q6, qs, qt, qr1, qc1, qr2, qc2, qt.length, rfl, qh6, qh4, ql1, ql2⟩)) ⟨rfl, rfl, rfl, rfl, (congrArg Bo hdd).symm, rfl, trivial⟩ (.keep rfl) ⟨hp1, hp2⟩
end Go.Proofs.Ytkcbhdjhbnnlgaa
end

section
/- Contracts: the law of effects, its middle (T). -/
set_option linter.unusedVariables false
set_option linter.unusedSimpArgs false
set_option maxRecDepth 100000
set_option maxHeartbeats 40000000
namespace Go.Proofs.Ytkcbhdjhbnnlgaa
open Go Go.RowKit Go.Proofs.Ytkcbhdjhbnnlgaa.Abs
variable {W0 : World} {σ : List Blk}
theorem efT_B4W0 (v : Value) (xs : List Int) (hcd : Code W0 v xs) (b0 b1 b2 b3 b4 b5 b6 b7 : Blk) (n cap : Nat) (hcb : Closed 8 [b0, b1, b2, b3, b4, b5, b6, b7]) {Q : CPost} (hE : RWs Try.prog W0 0 (tailN 17 r5) (frL [(0, .lit v), (3, .ptr 2 0 0), (4, .ptr 3 0 0), (5, Bo true), (8, .sl 4 n 0 n cap), (12, .ptr 7 0 0)]) [b0, b1, b2, b3, b4, b5, b6, b7] Q) : RWs Try.prog W0 0 (tailN 16 r5) (frL [(0, .lit v), (3, .ptr 2 0 0), (4, .ptr 3 0 0), (5, Bo true), (8, .sl 4 n 0 n cap), (12, .ptr 7 0 0), (25, Bo false)]) [b0, b1, b2, b3, b4, b5, b6, b7] Q := by
  refine RWs.live 1 (X := Unit) (fun _ => [(0, .lit v), (3, .ptr 2 0 0), (4, .ptr 3 0 0), (5, Bo true), (8, .sl 4 n 0 n cap), (12, .ptr 7 0 0)]) (fun _ => [b0, b1, b2, b3, b4, b5, b6, b7]) (fun _ => True) rfl (fun hcl => ?_) (fun _ _ => hE)
  repeat' ((conv => whnf); first | (refine Exists.intro ([] : List Nat) ?_) | (refine And.intro rfl ?_) | (refine And.intro (by decide +kernel) ?_) | (refine And.intro trivial ?_) | (refine fS_mk ?_) | (refine Exists.intro _ (And.intro rfl (And.intro rfl (And.intro (Nat.le_of_ble_eq_true rfl) ?_)))) | (refine Exists.intro _ (And.intro rfl (And.intro rfl (And.intro rfl (And.intro (Nat.le_of_ble_eq_true rfl) ?_))))) | (refine And.intro (Exists.intro _ (And.intro rfl rfl)) ?_) | (exact fun hW => absurd hW (by decide +kernel)) | (intro hW; (try simp only [Bool.not_true, Bool.not_false, Bool.not_eq_true', Bool.not_eq_false', decide_eq_true_eq, decide_eq_false_iff_not, reduceCtorEq, Bool.true_eq_false, Bool.false_eq_true, mk_size, List.size_toArray, ByteArray.size_append, ByteArray.size_extract, List.length_cons, List.length_nil, ba_get, ba_empty, Int.toNat_natCast] at hW)) | (refine And.intro (?_ : _ → _) (?_ : _ → _)) | (refine FinR.drop 0 (Nat.zero_le _) (Closed.zero _) rfl ?_) | (refine FinR.keep ?_) | (refine And.intro (det3_agg rfl) ?_) | (refine fL_mk ?_) | (refine And.intro (by (try simp only [mk_size, List.size_toArray, ByteArray.size_append, ByteArray.size_extract, List.length_cons, List.length_nil]); omega) ?_) | (refine And.intro (by (try simp only [mk_size, List.size_toArray, ByteArray.size_append, ByteArray.size_extract, List.length_cons, List.length_nil, wrap64_eq]); omega) ?_) | fail)
  all_goals (try (exfalso; simp_all; done))
  exact CutAt.gc [0, 1, 2, 3, 4, 5, 6, 7] (by decide) () ⟨rfl, rfl, rfl, rfl, rfl, rfl, trivial⟩ rfl ⟨⟨_, rfl, .low 8 rfl rfl (hcb _ (by simp))⟩, ⟨_, rfl, .low 8 rfl rfl (hcb _ (by simp))⟩, ⟨_, rfl, .low 8 rfl rfl (hcb _ (by simp))⟩, ⟨_, rfl, .low 8 rfl rfl (hcb _ (by simp))⟩, ⟨_, rfl, .low 8 rfl rfl (hcb _ (by simp))⟩, ⟨_, rfl, .low 8 rfl rfl (hcb _ (by simp))⟩, ⟨_, rfl, .low 8 rfl rfl (hcb _ (by simp))⟩, ⟨_, rfl, .low 8 rfl rfl (hcb _ (by simp))⟩, rfl⟩ trivial
theorem efT_B4W1 (s2 : Bool) (v : Value) (xs : List Int) (hcd : Code W0 v xs) (b0 b1 b2 b3 b4 b5 b6 b7 : Blk) (n cap : Nat) (hcb : Closed 8 [b0, b1, b2, b3, b4, b5, b6, b7]) {Q : CPost} (d : PD)  (hk : planB d.a1 d.a2 d.a3 d.a4 d.a5 d.a6 d.ss d.ts = true ∧ 0 ≤ d.k ∧ d.k + 2 ≤ d.ts.length) (hdd : decide (efL d.ss d.ts = efL d.ss (swL d.ts d.k.toNat)) = s2) (hE : RWs Try.prog W0 0 (tailN 17 r5) (frL [(0, .lit v), (3, .ptr 2 0 0), (4, .ptr 3 0 0), (5, Bo true), (8, .sl 4 n 0 n cap), (12, .ptr 7 0 0)]) [b0, b1, b2, b3, b4, b5, b6, b7] Q) : RWs Try.prog W0 0 (tailN 16 r5) (frL [(0, .lit v), (3, .ptr 2 0 0), (4, .ptr 3 0 0), (5, Bo true), (8, .sl 4 n 0 n cap), (12, .ptr 7 0 0), (22, .ptr 10 0 0), (23, I d.k), (24, Bo s2), (25, Bo true)]) [b0, b1, b2, b3, b4, b5, b6, b7, shK d.ss d.ss.length, stK d.ts d.ts.length, plBx d.a1 d.a2 d.a3 d.a4 d.a5 d.a6 (.sl 8 d.ss.length 0 d.ss.length d.c1) (.sl 9 d.ts.length 0 d.ts.length d.c2) 67] Q := by
  refine RWs.live 1 (X := Unit) (fun _ => [(0, .lit v), (3, .ptr 2 0 0), (4, .ptr 3 0 0), (5, Bo true), (8, .sl 4 n 0 n cap), (12, .ptr 7 0 0)]) (fun _ => [b0, b1, b2, b3, b4, b5, b6, b7]) (fun _ => True) rfl (fun hcl => ?_) (fun _ _ => hE)
  obtain ⟨z1, z2, z3, z4, z5, z6, kk, ss, ts, c1, c2, h6, h4, l1, l2⟩ := d
  dsimp only at hk hdd ⊢
  obtain ⟨hp, hk0, hk2⟩ := hk
  obtain ⟨k, rfl⟩ := Int.eq_ofNat_of_zero_le hk0
  rw [Int.toNat_natCast] at hdd
  have hk2' : k + 2 ≤ ts.length := by omega
  obtain ⟨u0, u1, u2, u3, hr0⟩ := row4x h4 (show k < ts.length by omega)
  obtain ⟨v0, v1, v2, v3, hr1⟩ := row4x h4 (show k + 1 < ts.length by omega)
  have ew : IntKind.i64.wrap ((k : Nat) + 1 : Int) = ((k + 1 : Nat) : Int) := wsucc' k (by omega)
  have ho0 : 0 + ((k : Nat) : Int).toNat * 4 = k * 4 := by rw [Int.toNat_natCast]; omega
  have ho1 : 0 + ((k + 1 : Nat) : Int).toNat * 4 = (k + 1) * 4 := by rw [Int.toNat_natCast]; omega
  have hsw := swL_eq hr0 hr1
  have hsw4 : ∀ x ∈ swL ts k, x.length = 4 := fun x h => h4 x (swL_mem hk2' h)
  obtain ⟨g1, g2, g3, hxa, hya⟩ := planB_iff.1 hp
  have hya' : (swL ts k).all (stOk ss.length) = true := List.all_eq_true.2 fun x h => List.all_eq_true.1 hya x (swL_mem hk2' h)
  have hpb : planB z1 z2 z3 z4 z5 z6 ss (swL ts k) = true := planB_iff.2 ⟨g1, g2, by rw [swL_len]; exact g3, hxa, hya'⟩
  have hsm := sameU hp hpb h6 h4 h6 hsw4
  have hlen : ts.length = (swL ts k).length := (swL_len ts k).symm
  have hC : jc ((ts.set k [v0, v1, v2, v3]).set (k + 1) [u0, u1, u2, u3]) = jc (swL ts k) := by rw [hsw]
  have h41 : ∀ x ∈ ts.set k [v0, v1, v2, v3], x.length = 4 := fun x h => (List.mem_or_eq_of_mem_set h).elim (h4 x) fun e => by rw [e]; rfl
  have hr1' : (ts.set k [v0, v1, v2, v3])[k + 1]? = some [v0, v1, v2, v3] := by rw [List.getElem?_set_ne (by omega)]; exact hr1
  have hj : (jc ts).length = ts.length * 4 := jc_len h4
  have hle : 0 + ts.length * 4 ≤ (stK ts ts.length).cells.length := by show 0 + ts.length * 4 ≤ (jc ts).length; omega
  have htk : List.take (ts.length * 4) (List.drop 0 (jc ts)) = jc ts := by rw [List.drop_zero, ← hj, List.take_length]
  have hl0 : 0 + ((k : Nat) : Int).toNat * 4 + 4 ≤ (stK ts ts.length).cells.length := by show 0 + ((k : Nat) : Int).toNat * 4 + 4 ≤ (jc ts).length; omega
  have hl1 : 0 + ((k + 1 : Nat) : Int).toNat * 4 + 4 ≤ (stK ts ts.length).cells.length := by show 0 + ((k + 1 : Nat) : Int).toNat * 4 + 4 ≤ (jc ts).length; omega
  have lv0 : mkAV true (List.take 4 (List.drop (0 + ((k : Nat) : Int).toNat * 4) (jc ts))) = StA u0 u1 u2 u3 := by rw [ho0, jc_rowB h4 hr0]; rfl
  have lv1 : mkAV true (List.take 4 (List.drop (0 + ((k + 1 : Nat) : Int).toNat * 4) (jc ts))) = StA v0 v1 v2 v3 := by rw [ho1, jc_rowB h4 hr1]; rfl
  rw [hdd] at hsm
  generalize swL ts k = sw at hsw4 hpb hsm hlen hC hya'
  clear hdd hsw
  cases s2
  all_goals
    repeat' ((conv => whnf); first | (rw [ew]) | (refine Exists.intro _ (And.intro rfl (And.intro rfl (And.intro hle ?_))); rw [htk]) | (refine Exists.intro _ (And.intro rfl (And.intro rfl (And.intro hl0 ?_))); rw [lv0]) | (refine Exists.intro _ (And.intro rfl (And.intro rfl (And.intro hl1 ?_))); rw [lv1]) | (refine Exists.intro ([] : List Nat) ?_) | (refine And.intro rfl ?_) | (refine And.intro (by decide +kernel) ?_) | (refine And.intro trivial ?_) | (refine fS_mk ?_) | (refine Exists.intro _ (And.intro rfl (And.intro rfl (And.intro rfl (And.intro rfl (And.intro rfl (And.intro rfl (And.intro (by decide) (And.intro rfl (And.intro hj (And.intro (by unfold maxLen; omega) (And.intro (by omega) (fun cap' hcap1 hcap2 => ?_)))))))))))); rw [Nat.zero_add ts.length]) | (refine st_rowB (l := ts) (r := 1) [v0, v1, v2, v3] ?_ h4 hr0 rfl ho0 ?_; exact rfl) | (refine st_rowB (l := ts.set k [v0, v1, v2, v3]) (r := 1) [u0, u1, u2, u3] ?_ h41 hr1' rfl ho1 ?_; exact rfl) | (refine d_SameEffects (h1 := sli_rows h6 rfl) (h2 := sli_rows h4 rfl) (g1 := sli_rows h6 rfl) (g2 := sli_rowsE hsw4 rfl hC hlen) (hx := h6) (hy := h4) (hx' := h6) (hy' := hsw4) (h0 := ?_) ..; rw [hsm]) | (refine Exists.intro _ (And.intro rfl (And.intro rfl (And.intro (Nat.le_of_ble_eq_true rfl) ?_)))) | (refine Exists.intro _ (And.intro rfl (And.intro rfl (And.intro rfl (And.intro (Nat.le_of_ble_eq_true rfl) ?_))))) | (refine And.intro (Exists.intro _ (And.intro rfl rfl)) ?_) | (exact fun hW => absurd hW (by decide +kernel)) | (intro hW; (try simp only [Bool.not_true, Bool.not_false, Bool.not_eq_true', Bool.not_eq_false', decide_eq_true_eq, decide_eq_false_iff_not, reduceCtorEq, Bool.true_eq_false, Bool.false_eq_true, mk_size, List.size_toArray, ByteArray.size_append, ByteArray.size_extract, List.length_cons, List.length_nil, ba_get, ba_empty, Int.toNat_natCast] at hW)) | (refine And.intro (?_ : _ → _) (?_ : _ → _)) | (refine FinR.drop 0 (Nat.zero_le _) (Closed.zero _) rfl ?_) | (refine FinR.keep ?_) | (refine And.intro (det3_agg rfl) ?_) | (refine fL_mk ?_) | (refine And.intro (by (try simp only [mk_size, List.size_toArray, ByteArray.size_append, ByteArray.size_extract, List.length_cons, List.length_nil]); omega) ?_) | (refine And.intro (by (try simp only [mk_size, List.size_toArray, ByteArray.size_append, ByteArray.size_extract, List.length_cons, List.length_nil, wrap64_eq]); omega) ?_) | fail)
    all_goals (try (exfalso; simp_all; done))
    exact CutAt.gc [0, 1, 2, 3, 4, 5, 6, 7] (by decide) () ⟨rfl, rfl, rfl, rfl, rfl, rfl, trivial⟩ rfl ⟨⟨_, rfl, .low 8 rfl rfl (hcb _ (by simp))⟩, ⟨_, rfl, .low 8 rfl rfl (hcb _ (by simp))⟩, ⟨_, rfl, .low 8 rfl rfl (hcb _ (by simp))⟩, ⟨_, rfl, .low 8 rfl rfl (hcb _ (by simp))⟩, ⟨_, rfl, .low 8 rfl rfl (hcb _ (by simp))⟩, ⟨_, rfl, .low 8 rfl rfl (hcb _ (by simp))⟩, ⟨_, rfl, .low 8 rfl rfl (hcb _ (by simp))⟩, ⟨_, rfl, .low 8 rfl rfl (hcb _ (by simp))⟩, rfl⟩ trivial
theorem efT_B3W0 (s : Bool) (qa qb : List Int) (v : Value) (xs : List Int) (hcd : Code W0 v xs) (b0 b1 b2 b3 b4 b5 b6 b7 : Blk) (n cap : Nat) (hcb : Closed 8 [b0, b1, b2, b3, b4, b5, b6, b7]) {Q : CPost} (p q : PK) (hp : planB p.a1 p.a2 p.a3 p.a4 p.a5 p.a6 p.ss p.ts = true) (hq : planB q.a1 q.a2 q.a3 q.a4 q.a5 q.a6 q.ss q.ts = true)  (hqa' : efL p.ss p.ts = qa) (hqb' : efL q.ss q.ts = qb) (hdd : decide (qa = qb) = s) (hN : RWs Try.prog W0 0 (tailN 16 r5) (frL [(0, .lit v), (3, .ptr 2 0 0), (4, .ptr 3 0 0), (5, Bo true), (8, .sl 4 n 0 n cap), (12, .ptr 7 0 0), (25, Bo false)]) [b0, b1, b2, b3, b4, b5, b6, b7] Q) : RWs Try.prog W0 0 (tailN 15 r5) (frL [(0, .lit v), (3, .ptr 2 0 0), (4, .ptr 3 0 0), (5, Bo true), (8, .sl 4 n 0 n cap), (12, .ptr 7 0 0), (16, .ptr 12 0 0), (17, .ptr 13 0 0), (18, Bo s), (19, Bo true), (25, Bo false)]) [b0, b1, b2, b3, b4, b5, b6, b7, shK p.ss p.r1, stK p.ts p.r2, shK q.ss q.r1, stK q.ts q.r2, plBx p.a1 p.a2 p.a3 p.a4 p.a5 p.a6 (.sl 8 p.r1 0 p.ss.length p.c1) (.sl 9 p.r2 0 p.m2 p.c2) 67, plBx q.a1 q.a2 q.a3 q.a4 q.a5 q.a6 (.sl 10 q.r1 0 q.ss.length q.c1) (.sl 11 q.r2 0 q.m2 q.c2) 67] Q := by
  obtain ⟨p1, p2, p3, p4, p5, p6, ps, pt, pr1, pc1, pr2, pc2, pm2, rfl, ph6, ph4, pl1, pl2⟩ := p
  obtain ⟨q1, q2, q3, q4, q5, q6, qs, qt, qr1, qc1, qr2, qc2, qm2, rfl, qh6, qh4, ql1, ql2⟩ := q
  dsimp only at hp hq hqa' hqb' hN ⊢
  have hqa : qa.length = 36 := by rw [← hqa']; exact effN_len _ _ (Nat.le_refl _)
  have hqb : qb.length = 36 := by rw [← hqb']; exact effN_len _ _ (Nat.le_refl _)
  have hefa : efR p1 p2 p3 p4 p5 p6 ps pt = .tup [Pi qa, Bo true] := by unfold efR; rw [hp, ← hqa']; rfl
  have hefb : efR q1 q2 q3 q4 q5 q6 qs qt = .tup [Pi qb, Bo true] := by unfold efR; rw [hq, ← hqb']; rfl
  refine RWs.live 1 (X := Unit) (fun _ => [(0, .lit v), (3, .ptr 2 0 0), (4, .ptr 3 0 0), (5, Bo true), (8, .sl 4 n 0 n cap), (12, .ptr 7 0 0), (25, Bo false)]) (fun _ => [b0, b1, b2, b3, b4, b5, b6, b7]) (fun _ => True) rfl (fun hcl => ?_) (fun _ _ => hN)
  clear hqa' hqb'
  cases s
  all_goals
    repeat' ((conv => whnf); first | (refine Exists.intro _ (And.intro rfl (And.intro rfl (And.intro (pic_len hqa) (And.intro (Nat.le_of_ble_eq_true rfl) ?_))))) | (refine Exists.intro _ (And.intro rfl (And.intro rfl (And.intro (pic_len hqb) (And.intro (Nat.le_of_ble_eq_true rfl) ?_))))) | (refine Exists.intro _ (And.intro rfl (And.intro rfl (And.intro (pic_rle hqa _) ?_))); rw [pic_res hqa _]) | (refine Exists.intro _ (And.intro rfl (And.intro rfl (And.intro (pic_rle hqb _) ?_))); rw [pic_res hqb _]) | (rw [lits_I, lits_I]) | (rw [eqC36b hqa hqb, hdd]) | (refine Exists.intro ([] : List Nat) ?_) | (refine And.intro rfl ?_) | (refine And.intro (by decide +kernel) ?_) | (refine And.intro trivial ?_) | (refine fS_mk ?_) | (refine d_EffectsOf (h1 := sli_rows ph6 rfl) (h2 := sli_rows ph4 rfl) (hx := ph6) (hy := ph4) (h0 := ?_) ..; rw [hefa]) | (refine d_EffectsOf (h1 := sli_rows qh6 rfl) (h2 := sli_rows qh4 rfl) (hx := qh6) (hy := qh4) (h0 := ?_) ..; rw [hefb]) | (refine Exists.intro _ (And.intro rfl (And.intro rfl (And.intro (Nat.le_of_ble_eq_true rfl) ?_)))) | (refine Exists.intro _ (And.intro rfl (And.intro rfl (And.intro rfl (And.intro (Nat.le_of_ble_eq_true rfl) ?_))))) | (refine And.intro (Exists.intro _ (And.intro rfl rfl)) ?_) | (exact fun hW => absurd hW (by decide +kernel)) | (intro hW; (try simp only [Bool.not_true, Bool.not_false, Bool.not_eq_true', Bool.not_eq_false', decide_eq_true_eq, decide_eq_false_iff_not, reduceCtorEq, Bool.true_eq_false, Bool.false_eq_true, mk_size, List.size_toArray, ByteArray.size_append, ByteArray.size_extract, List.length_cons, List.length_nil, ba_get, ba_empty, Int.toNat_natCast] at hW)) | (refine And.intro (?_ : _ → _) (?_ : _ → _)) | (refine FinR.drop 0 (Nat.zero_le _) (Closed.zero _) rfl ?_) | (refine FinR.keep ?_) | (refine And.intro (det3_agg rfl) ?_) | (refine fL_mk ?_) | (refine And.intro (by (try simp only [mk_size, List.size_toArray, ByteArray.size_append, ByteArray.size_extract, List.length_cons, List.length_nil]); omega) ?_) | (refine And.intro (by (try simp only [mk_size, List.size_toArray, ByteArray.size_append, ByteArray.size_extract, List.length_cons, List.length_nil, wrap64_eq]); omega) ?_) | fail)
    all_goals (try (exfalso; simp_all; done))
    exact CutAt.gc [0, 1, 2, 3, 4, 5, 6, 7] (by decide) () ⟨rfl, rfl, rfl, rfl, rfl, rfl, rfl, trivial⟩ rfl ⟨⟨_, rfl, .low 8 rfl rfl (hcb _ (by simp))⟩, ⟨_, rfl, .low 8 rfl rfl (hcb _ (by simp))⟩, ⟨_, rfl, .low 8 rfl rfl (hcb _ (by simp))⟩, ⟨_, rfl, .low 8 rfl rfl (hcb _ (by simp))⟩, ⟨_, rfl, .low 8 rfl rfl (hcb _ (by simp))⟩, ⟨_, rfl, .low 8 rfl rfl (hcb _ (by simp))⟩, ⟨_, rfl, .low 8 rfl rfl (hcb _ (by simp))⟩, ⟨_, rfl, .low 8 rfl rfl (hcb _ (by simp))⟩, rfl⟩ trivial
theorem efT_B3W1 (s : Bool) (qa qb : List Int) (s2 : Bool) (v : Value) (xs : List Int) (hcd : Code W0 v xs) (b0 b1 b2 b3 b4 b5 b6 b7 : Blk) (n cap : Nat) (hcb : Closed 8 [b0, b1, b2, b3, b4, b5, b6, b7]) {Q : CPost} (p q : PK) (hp : planB p.a1 p.a2 p.a3 p.a4 p.a5 p.a6 p.ss p.ts = true) (hq : planB q.a1 q.a2 q.a3 q.a4 q.a5 q.a6 q.ss q.ts = true) (d : PD) (hk : planB d.a1 d.a2 d.a3 d.a4 d.a5 d.a6 d.ss d.ts = true ∧ 0 ≤ d.k ∧ d.k + 2 ≤ d.ts.length) (hqa' : efL p.ss p.ts = qa) (hqb' : efL q.ss q.ts = qb) (hdd : decide (qa = qb) = s) (hN : RWs Try.prog W0 0 (tailN 16 r5) (frL [(0, .lit v), (3, .ptr 2 0 0), (4, .ptr 3 0 0), (5, Bo true), (8, .sl 4 n 0 n cap), (12, .ptr 7 0 0), (22, .ptr 10 0 0), (23, I d.k), (24, Bo s2), (25, Bo true)]) [b0, b1, b2, b3, b4, b5, b6, b7, shK d.ss d.ss.length, stK d.ts d.ts.length, plBx d.a1 d.a2 d.a3 d.a4 d.a5 d.a6 (.sl 8 d.ss.length 0 d.ss.length d.c1) (.sl 9 d.ts.length 0 d.ts.length d.c2) 67] Q) : RWs Try.prog W0 0 (tailN 15 r5) (frL [(0, .lit v), (3, .ptr 2 0 0), (4, .ptr 3 0 0), (5, Bo true), (8, .sl 4 n 0 n cap), (12, .ptr 7 0 0), (16, .ptr 12 0 0), (17, .ptr 13 0 0), (18, Bo s), (19, Bo true), (22, .ptr 16 0 0), (23, I d.k), (24, Bo s2), (25, Bo true)]) [b0, b1, b2, b3, b4, b5, b6, b7, shK p.ss p.r1, stK p.ts p.r2, shK q.ss q.r1, stK q.ts q.r2, plBx p.a1 p.a2 p.a3 p.a4 p.a5 p.a6 (.sl 8 p.r1 0 p.ss.length p.c1) (.sl 9 p.r2 0 p.m2 p.c2) 67, plBx q.a1 q.a2 q.a3 q.a4 q.a5 q.a6 (.sl 10 q.r1 0 q.ss.length q.c1) (.sl 11 q.r2 0 q.m2 q.c2) 67, shK d.ss d.ss.length, stK d.ts d.ts.length, plBx d.a1 d.a2 d.a3 d.a4 d.a5 d.a6 (.sl 14 d.ss.length 0 d.ss.length d.c1) (.sl 15 d.ts.length 0 d.ts.length d.c2) 67] Q := by
  obtain ⟨p1, p2, p3, p4, p5, p6, ps, pt, pr1, pc1, pr2, pc2, pm2, rfl, ph6, ph4, pl1, pl2⟩ := p
  obtain ⟨q1, q2, q3, q4, q5, q6, qs, qt, qr1, qc1, qr2, qc2, qm2, rfl, qh6, qh4, ql1, ql2⟩ := q
  dsimp only at hp hq hqa' hqb' hN ⊢
  have hqa : qa.length = 36 := by rw [← hqa']; exact effN_len _ _ (Nat.le_refl _)
  have hqb : qb.length = 36 := by rw [← hqb']; exact effN_len _ _ (Nat.le_refl _)
  have hefa : efR p1 p2 p3 p4 p5 p6 ps pt = .tup [Pi qa, Bo true] := by unfold efR; rw [hp, ← hqa']; rfl
  have hefb : efR q1 q2 q3 q4 q5 q6 qs qt = .tup [Pi qb, Bo true] := by unfold efR; rw [hq, ← hqb']; rfl
  refine RWs.live 1 (X := Unit) (fun _ => [(0, .lit v), (3, .ptr 2 0 0), (4, .ptr 3 0 0), (5, Bo true), (8, .sl 4 n 0 n cap), (12, .ptr 7 0 0), (22, .ptr 10 0 0), (23, I d.k), (24, Bo s2), (25, Bo true)]) (fun _ => [b0, b1, b2, b3, b4, b5, b6, b7, shK d.ss d.ss.length, stK d.ts d.ts.length, plBx d.a1 d.a2 d.a3 d.a4 d.a5 d.a6 (.sl 8 d.ss.length 0 d.ss.length d.c1) (.sl 9 d.ts.length 0 d.ts.length d.c2) 67]) (fun _ => True) rfl (fun hcl => ?_) (fun _ _ => hN)
  clear hqa' hqb'
  cases s
  all_goals
    repeat' ((conv => whnf); first | (refine Exists.intro _ (And.intro rfl (And.intro rfl (And.intro (pic_len hqa) (And.intro (Nat.le_of_ble_eq_true rfl) ?_))))) | (refine Exists.intro _ (And.intro rfl (And.intro rfl (And.intro (pic_len hqb) (And.intro (Nat.le_of_ble_eq_true rfl) ?_))))) | (refine Exists.intro _ (And.intro rfl (And.intro rfl (And.intro (pic_rle hqa _) ?_))); rw [pic_res hqa _]) | (refine Exists.intro _ (And.intro rfl (And.intro rfl (And.intro (pic_rle hqb _) ?_))); rw [pic_res hqb _]) | (rw [lits_I, lits_I]) | (rw [eqC36b hqa hqb, hdd]) | (refine Exists.intro ([] : List Nat) ?_) | (refine And.intro rfl ?_) | (refine And.intro (by decide +kernel) ?_) | (refine And.intro trivial ?_) | (refine fS_mk ?_) | (refine d_EffectsOf (h1 := sli_rows ph6 rfl) (h2 := sli_rows ph4 rfl) (hx := ph6) (hy := ph4) (h0 := ?_) ..; rw [hefa]) | (refine d_EffectsOf (h1 := sli_rows qh6 rfl) (h2 := sli_rows qh4 rfl) (hx := qh6) (hy := qh4) (h0 := ?_) ..; rw [hefb]) | (refine Exists.intro _ (And.intro rfl (And.intro rfl (And.intro (Nat.le_of_ble_eq_true rfl) ?_)))) | (refine Exists.intro _ (And.intro rfl (And.intro rfl (And.intro rfl (And.intro (Nat.le_of_ble_eq_true rfl) ?_))))) | (refine And.intro (Exists.intro _ (And.intro rfl rfl)) ?_) | (exact fun hW => absurd hW (by decide +kernel)) | (intro hW; (try simp only [Bool.not_true, Bool.not_false, Bool.not_eq_true', Bool.not_eq_false', decide_eq_true_eq, decide_eq_false_iff_not, reduceCtorEq, Bool.true_eq_false, Bool.false_eq_true, mk_size, List.size_toArray, ByteArray.size_append, ByteArray.size_extract, List.length_cons, List.length_nil, ba_get, ba_empty, Int.toNat_natCast] at hW)) | (refine And.intro (?_ : _ → _) (?_ : _ → _)) | (refine FinR.drop 0 (Nat.zero_le _) (Closed.zero _) rfl ?_) | (refine FinR.keep ?_) | (refine And.intro (det3_agg rfl) ?_) | (refine fL_mk ?_) | (refine And.intro (by (try simp only [mk_size, List.size_toArray, ByteArray.size_append, ByteArray.size_extract, List.length_cons, List.length_nil]); omega) ?_) | (refine And.intro (by (try simp only [mk_size, List.size_toArray, ByteArray.size_append, ByteArray.size_extract, List.length_cons, List.length_nil, wrap64_eq]); omega) ?_) | fail)
    all_goals (try (exfalso; simp_all; done))
    exact CutAt.gc [0, 1, 2, 3, 4, 5, 6, 7, 14, 15, 16] (by decide) () ⟨rfl, rfl, rfl, rfl, rfl, rfl, rfl, rfl, rfl, rfl, trivial⟩ rfl ⟨⟨_, rfl, .low 8 rfl rfl (hcb _ (by simp))⟩, ⟨_, rfl, .low 8 rfl rfl (hcb _ (by simp))⟩, ⟨_, rfl, .low 8 rfl rfl (hcb _ (by simp))⟩, ⟨_, rfl, .low 8 rfl rfl (hcb _ (by simp))⟩, ⟨_, rfl, .low 8 rfl rfl (hcb _ (by simp))⟩, ⟨_, rfl, .low 8 rfl rfl (hcb _ (by simp))⟩, ⟨_, rfl, .low 8 rfl rfl (hcb _ (by simp))⟩, ⟨_, rfl, .low 8 rfl rfl (hcb _ (by simp))⟩, ⟨_, rfl, .lits rfl (jc_lits _)⟩, ⟨_, rfl, .lits rfl (jc_lits _)⟩, ⟨_, rfl, .ren rfl rfl⟩, rfl⟩ trivial
def efT_s2 (v : Value) (b0 b1 b2 b3 b4 b5 b6 b7 : Blk) (n cap : Nat) : Unit ⊕ PD → List (Nat × AV)
  | .inl _ => [(0, .lit v), (3, .ptr 2 0 0), (4, .ptr 3 0 0), (5, Bo true), (8, .sl 4 n 0 n cap), (12, .ptr 7 0 0), (25, Bo false)]
  | .inr d => [(0, .lit v), (3, .ptr 2 0 0), (4, .ptr 3 0 0), (5, Bo true), (8, .sl 4 n 0 n cap), (12, .ptr 7 0 0), (22, .ptr 10 0 0), (23, I d.k), (24, Bo (decide (efL d.ss d.ts = efL d.ss (swL d.ts d.k.toNat)))), (25, Bo true)]
def efT_b2 (b0 b1 b2 b3 b4 b5 b6 b7 : Blk) (n cap : Nat) : Unit ⊕ PD → List Blk
  | .inl _ => [b0, b1, b2, b3, b4, b5, b6, b7]
  | .inr d => [b0, b1, b2, b3, b4, b5, b6, b7, shK d.ss d.ss.length, stK d.ts d.ts.length, plBx d.a1 d.a2 d.a3 d.a4 d.a5 d.a6 (.sl 8 d.ss.length 0 d.ss.length d.c1) (.sl 9 d.ts.length 0 d.ts.length d.c2) 67]
theorem efT_B2V0 (v : Value) (xs : List Int) (hcd : Code W0 v xs) (b0 b1 b2 b3 b4 b5 b6 b7 : Blk) (n cap : Nat) (hcb : Closed 8 [b0, b1, b2, b3, b4, b5, b6, b7]) {Q : CPost} (hE : RWs Try.prog W0 0 (tailN 17 r5) (frL [(0, .lit v), (3, .ptr 2 0 0), (4, .ptr 3 0 0), (5, Bo true), (8, .sl 4 n 0 n cap), (12, .ptr 7 0 0)]) [b0, b1, b2, b3, b4, b5, b6, b7] Q) : RWs Try.prog W0 0 (tailN 12 r5) (frL [(0, .lit v), (3, .ptr 2 0 0), (4, .ptr 3 0 0), (5, Bo true), (8, .sl 4 n 0 n cap), (12, .ptr 7 0 0), (19, Bo false)]) [b0, b1, b2, b3, b4, b5, b6, b7] Q := by
  refine RWs.live 4 (X := Unit ⊕ PD) (efT_s2 v b0 b1 b2 b3 b4 b5 b6 b7 n cap) (efT_b2 b0 b1 b2 b3 b4 b5 b6 b7 n cap) efD rfl (fun hcl => ?_) ?_
  rotate_left
  · rintro (_ | d) hd
    · exact efT_B4W0 v xs hcd b0 b1 b2 b3 b4 b5 b6 b7 n cap hcb hE
    · exact efT_B4W1 _ v xs hcd b0 b1 b2 b3 b4 b5 b6 b7 n cap hcb d hd rfl hE
  repeat' ((conv => whnf); first | (refine Exists.intro ([] : List Nat) ?_) | (refine And.intro rfl ?_) | (refine And.intro (by decide +kernel) ?_) | (refine And.intro trivial ?_) | (refine fS_mk ?_) | (refine Exists.intro _ (And.intro rfl (And.intro rfl (And.intro (Nat.le_of_ble_eq_true rfl) ?_)))) | (refine Exists.intro _ (And.intro rfl (And.intro rfl (And.intro rfl (And.intro (Nat.le_of_ble_eq_true rfl) ?_))))) | (refine And.intro (Exists.intro _ (And.intro rfl rfl)) ?_) | (exact fun hW => absurd hW (by decide +kernel)) | (intro hW; (try simp only [Bool.not_true, Bool.not_false, Bool.not_eq_true', Bool.not_eq_false', decide_eq_true_eq, decide_eq_false_iff_not, reduceCtorEq, Bool.true_eq_false, Bool.false_eq_true, mk_size, List.size_toArray, ByteArray.size_append, ByteArray.size_extract, List.length_cons, List.length_nil, ba_get, ba_empty, Int.toNat_natCast] at hW)) | (refine And.intro (?_ : _ → _) (?_ : _ → _)) | (refine FinR.drop 0 (Nat.zero_le _) (Closed.zero _) rfl ?_) | (refine FinR.keep ?_) | (refine And.intro (det3_agg rfl) ?_) | (refine fL_mk ?_) | (refine And.intro (by (try simp only [mk_size, List.size_toArray, ByteArray.size_append, ByteArray.size_extract, List.length_cons, List.length_nil]); omega) ?_) | (refine And.intro (by (try simp only [mk_size, List.size_toArray, ByteArray.size_append, ByteArray.size_extract, List.length_cons, List.length_nil, wrap64_eq]); omega) ?_) | fail)
  refine d_DrawCanSwap (hcd := hcd) (h0 := fun d => ?_) ..
  have hl1 : d.ss.length ≤ 1048576 := by have := d.l1; omega
  have hl2 : d.ts.length ≤ 1048576 := by have := d.l2; omega
  by_cases hck : planB d.a1 d.a2 d.a3 d.a4 d.a5 d.a6 d.ss d.ts = true ∧ 0 ≤ d.k ∧ d.k + 2 ≤ d.ts.length
  · have hcn : canR d.a1 d.a2 d.a3 d.a4 d.a5 d.a6 d.ss d.ts d.k = .tup [Bo (decide (efL d.ss d.ts = efL d.ss (swL d.ts d.k.toNat))), Bo true] := by unfold canR; rw [if_pos hck]
    generalize hdd : decide (efL d.ss d.ts = efL d.ss (swL d.ts d.k.toNat)) = s at hcn
    cases s
    all_goals
      repeat' ((conv => whnf); first | (refine Exists.intro ([] : List Nat) ?_) | (refine And.intro rfl ?_) | (refine And.intro (by decide +kernel) ?_) | (refine And.intro trivial ?_) | (refine fS_mk ?_) | (refine d_sCanSwap (h1 := sli_rows d.h6 rfl) (h2 := sli_rows d.h4 rfl) (n1 := sl_nn) (n2 := sl_nn) (hx := d.h6) (hy := d.h4) (hl := hl1) (hl2 := hl2) (h0 := ?_) ..; rw [hcn]) | (refine d_CanSwap (h1 := sli_rows d.h6 rfl) (h2 := sli_rows d.h4 rfl) (hx := d.h6) (hy := d.h4) (h0 := ?_) ..; rw [hcn]) | (refine Exists.intro _ (And.intro rfl (And.intro rfl (And.intro (Nat.le_of_ble_eq_true rfl) ?_)))) | (refine Exists.intro _ (And.intro rfl (And.intro rfl (And.intro rfl (And.intro (Nat.le_of_ble_eq_true rfl) ?_))))) | (refine And.intro (Exists.intro _ (And.intro rfl rfl)) ?_) | (exact fun hW => absurd hW (by decide +kernel)) | (intro hW; (try simp only [Bool.not_true, Bool.not_false, Bool.not_eq_true', Bool.not_eq_false', decide_eq_true_eq, decide_eq_false_iff_not, reduceCtorEq, Bool.true_eq_false, Bool.false_eq_true, mk_size, List.size_toArray, ByteArray.size_append, ByteArray.size_extract, List.length_cons, List.length_nil, ba_get, ba_empty, Int.toNat_natCast] at hW)) | (refine And.intro (?_ : _ → _) (?_ : _ → _)) | (refine FinR.drop 0 (Nat.zero_le _) (Closed.zero _) rfl ?_) | (refine FinR.keep ?_) | (refine And.intro (det3_agg rfl) ?_) | (refine fL_mk ?_) | (refine And.intro (by (try simp only [mk_size, List.size_toArray, ByteArray.size_append, ByteArray.size_extract, List.length_cons, List.length_nil]); omega) ?_) | (refine And.intro (by (try simp only [mk_size, List.size_toArray, ByteArray.size_append, ByteArray.size_extract, List.length_cons, List.length_nil, wrap64_eq]); omega) ?_) | fail)
      all_goals (try (exfalso; simp_all; done))
      exact CutAt.gc [0, 1, 2, 3, 4, 5, 6, 7, 8, 9, 10] (by decide) (.inr d) ⟨rfl, rfl, rfl, rfl, rfl, rfl, rfl, rfl, (congrArg Bo hdd).symm, rfl, trivial⟩ rfl ⟨⟨_, rfl, .low 8 rfl rfl (hcb _ (by simp))⟩, ⟨_, rfl, .low 8 rfl rfl (hcb _ (by simp))⟩, ⟨_, rfl, .low 8 rfl rfl (hcb _ (by simp))⟩, ⟨_, rfl, .low 8 rfl rfl (hcb _ (by simp))⟩, ⟨_, rfl, .low 8 rfl rfl (hcb _ (by simp))⟩, ⟨_, rfl, .low 8 rfl rfl (hcb _ (by simp))⟩, ⟨_, rfl, .low 8 rfl rfl (hcb _ (by simp))⟩, ⟨_, rfl, .low 8 rfl rfl (hcb _ (by simp))⟩, ⟨_, rfl, .lits rfl (jc_lits _)⟩, ⟨_, rfl, .lits rfl (jc_lits _)⟩, ⟨_, rfl, .ren rfl rfl⟩, rfl⟩ hck
  · have hcn : canR d.a1 d.a2 d.a3 d.a4 d.a5 d.a6 d.ss d.ts d.k = .tup [Bo false, Bo false] := by unfold canR; rw [if_neg hck]
    repeat' ((conv => whnf); first | (refine Exists.intro ([] : List Nat) ?_) | (refine And.intro rfl ?_) | (refine And.intro (by decide +kernel) ?_) | (refine And.intro trivial ?_) | (refine fS_mk ?_) | (refine d_sCanSwap (h1 := sli_rows d.h6 rfl) (h2 := sli_rows d.h4 rfl) (n1 := sl_nn) (n2 := sl_nn) (hx := d.h6) (hy := d.h4) (hl := hl1) (hl2 := hl2) (h0 := ?_) ..; rw [hcn]) | (refine d_CanSwap (h1 := sli_rows d.h6 rfl) (h2 := sli_rows d.h4 rfl) (hx := d.h6) (hy := d.h4) (h0 := ?_) ..; rw [hcn]) | (refine Exists.intro _ (And.intro rfl (And.intro rfl (And.intro (Nat.le_of_ble_eq_true rfl) ?_)))) | (refine Exists.intro _ (And.intro rfl (And.intro rfl (And.intro rfl (And.intro (Nat.le_of_ble_eq_true rfl) ?_))))) | (refine And.intro (Exists.intro _ (And.intro rfl rfl)) ?_) | (exact fun hW => absurd hW (by decide +kernel)) | (intro hW; (try simp only [Bool.not_true, Bool.not_false, Bool.not_eq_true', Bool.not_eq_false', decide_eq_true_eq, decide_eq_false_iff_not, reduceCtorEq, Bool.true_eq_false, Bool.false_eq_true, mk_size, List.size_toArray, ByteArray.size_append, ByteArray.size_extract, List.length_cons, List.length_nil, ba_get, ba_empty, Int.toNat_natCast] at hW)) | (refine And.intro (?_ : _ → _) (?_ : _ → _)) | (refine FinR.drop 0 (Nat.zero_le _) (Closed.zero _) rfl ?_) | (refine FinR.keep ?_) | (refine And.intro (det3_agg rfl) ?_) | (refine fL_mk ?_) | (refine And.intro (by (try simp only [mk_size, List.size_toArray, ByteArray.size_append, ByteArray.size_extract, List.length_cons, List.length_nil]); omega) ?_) | (refine And.intro (by (try simp only [mk_size, List.size_toArray, ByteArray.size_append, ByteArray.size_extract, List.length_cons, List.length_nil, wrap64_eq]); omega) ?_) | fail)
    all_goals (try (exfalso; simp_all; done))
    exact CutAt.gc [0, 1, 2, 3, 4, 5, 6, 7] (by decide) (.inl ()) ⟨rfl, rfl, rfl, rfl, rfl, rfl, rfl, trivial⟩ rfl ⟨⟨_, rfl, .low 8 rfl rfl (hcb _ (by simp))⟩, ⟨_, rfl, .low 8 rfl rfl (hcb _ (by simp))⟩, ⟨_, rfl, .low 8 rfl rfl (hcb _ (by simp))⟩, ⟨_, rfl, .low 8 rfl rfl (hcb _ (by simp))⟩, ⟨_, rfl, .low 8 rfl rfl (hcb _ (by simp))⟩, ⟨_, rfl, .low 8 rfl rfl (hcb _ (by simp))⟩, ⟨_, rfl, .low 8 rfl rfl (hcb _ (by simp))⟩, ⟨_, rfl, .low 8 rfl rfl (hcb _ (by simp))⟩, rfl⟩ trivial
def efT_s3 (v : Value) (b0 b1 b2 b3 b4 b5 b6 b7 : Blk) (n cap : Nat) (p q : PK) : Unit ⊕ PD → List (Nat × AV)
  | .inl _ => [(0, .lit v), (3, .ptr 2 0 0), (4, .ptr 3 0 0), (5, Bo true), (8, .sl 4 n 0 n cap), (12, .ptr 7 0 0), (16, .ptr 12 0 0), (17, .ptr 13 0 0), (18, Bo (decide (efL p.ss p.ts = efL q.ss q.ts))), (19, Bo true), (25, Bo false)]
  | .inr d => [(0, .lit v), (3, .ptr 2 0 0), (4, .ptr 3 0 0), (5, Bo true), (8, .sl 4 n 0 n cap), (12, .ptr 7 0 0), (16, .ptr 12 0 0), (17, .ptr 13 0 0), (18, Bo (decide (efL p.ss p.ts = efL q.ss q.ts))), (19, Bo true), (22, .ptr 16 0 0), (23, I d.k), (24, Bo (decide (efL d.ss d.ts = efL d.ss (swL d.ts d.k.toNat)))), (25, Bo true)]
def efT_b3 (b0 b1 b2 b3 b4 b5 b6 b7 : Blk) (n cap : Nat) (p q : PK) : Unit ⊕ PD → List Blk
  | .inl _ => [b0, b1, b2, b3, b4, b5, b6, b7, shK p.ss p.r1, stK p.ts p.r2, shK q.ss q.r1, stK q.ts q.r2, plBx p.a1 p.a2 p.a3 p.a4 p.a5 p.a6 (.sl 8 p.r1 0 p.ss.length p.c1) (.sl 9 p.r2 0 p.m2 p.c2) 67, plBx q.a1 q.a2 q.a3 q.a4 q.a5 q.a6 (.sl 10 q.r1 0 q.ss.length q.c1) (.sl 11 q.r2 0 q.m2 q.c2) 67]
  | .inr d => [b0, b1, b2, b3, b4, b5, b6, b7, shK p.ss p.r1, stK p.ts p.r2, shK q.ss q.r1, stK q.ts q.r2, plBx p.a1 p.a2 p.a3 p.a4 p.a5 p.a6 (.sl 8 p.r1 0 p.ss.length p.c1) (.sl 9 p.r2 0 p.m2 p.c2) 67, plBx q.a1 q.a2 q.a3 q.a4 q.a5 q.a6 (.sl 10 q.r1 0 q.ss.length q.c1) (.sl 11 q.r2 0 q.m2 q.c2) 67, shK d.ss d.ss.length, stK d.ts d.ts.length, plBx d.a1 d.a2 d.a3 d.a4 d.a5 d.a6 (.sl 14 d.ss.length 0 d.ss.length d.c1) (.sl 15 d.ts.length 0 d.ts.length d.c2) 67]
theorem efT_B2V1 (v : Value) (xs : List Int) (hcd : Code W0 v xs) (b0 b1 b2 b3 b4 b5 b6 b7 : Blk) (n cap : Nat) (hcb : Closed 8 [b0, b1, b2, b3, b4, b5, b6, b7]) {Q : CPost} (p q : PK) (hp : planB p.a1 p.a2 p.a3 p.a4 p.a5 p.a6 p.ss p.ts = true) (hq : planB q.a1 q.a2 q.a3 q.a4 q.a5 q.a6 q.ss q.ts = true) (hE : RWs Try.prog W0 0 (tailN 17 r5) (frL [(0, .lit v), (3, .ptr 2 0 0), (4, .ptr 3 0 0), (5, Bo true), (8, .sl 4 n 0 n cap), (12, .ptr 7 0 0)]) [b0, b1, b2, b3, b4, b5, b6, b7] Q) : RWs Try.prog W0 0 (tailN 12 r5) (frL [(0, .lit v), (3, .ptr 2 0 0), (4, .ptr 3 0 0), (5, Bo true), (8, .sl 4 n 0 n cap), (12, .ptr 7 0 0), (16, .ptr 12 0 0), (17, .ptr 13 0 0), (18, Bo (decide (efL p.ss p.ts = efL q.ss q.ts))), (19, Bo true)]) [b0, b1, b2, b3, b4, b5, b6, b7, shK p.ss p.r1, stK p.ts p.r2, shK q.ss q.r1, stK q.ts q.r2, plBx p.a1 p.a2 p.a3 p.a4 p.a5 p.a6 (.sl 8 p.r1 0 p.ss.length p.c1) (.sl 9 p.r2 0 p.m2 p.c2) 67, plBx q.a1 q.a2 q.a3 q.a4 q.a5 q.a6 (.sl 10 q.r1 0 q.ss.length q.c1) (.sl 11 q.r2 0 q.m2 q.c2) 67] Q := by
  refine RWs.live 3 (X := Unit ⊕ PD) (efT_s3 v b0 b1 b2 b3 b4 b5 b6 b7 n cap p q) (efT_b3 b0 b1 b2 b3 b4 b5 b6 b7 n cap p q) efD rfl (fun hcl => ?_) ?_
  rotate_left
  · rintro (_ | d) hd
    · exact efT_B3W0 _ _ _ v xs hcd b0 b1 b2 b3 b4 b5 b6 b7 n cap hcb p q hp hq rfl rfl rfl (efT_B4W0 v xs hcd b0 b1 b2 b3 b4 b5 b6 b7 n cap hcb hE)
    · exact efT_B3W1 _ _ _ _ v xs hcd b0 b1 b2 b3 b4 b5 b6 b7 n cap hcb p q hp hq d hd rfl rfl rfl (efT_B4W1 _ v xs hcd b0 b1 b2 b3 b4 b5 b6 b7 n cap hcb d hd rfl hE)
  repeat' ((conv => whnf); first | (refine Exists.intro ([] : List Nat) ?_) | (refine And.intro rfl ?_) | (refine And.intro (by decide +kernel) ?_) | (refine And.intro trivial ?_) | (refine fS_mk ?_) | (refine Exists.intro _ (And.intro rfl (And.intro rfl (And.intro (Nat.le_of_ble_eq_true rfl) ?_)))) | (refine Exists.intro _ (And.intro rfl (And.intro rfl (And.intro rfl (And.intro (Nat.le_of_ble_eq_true rfl) ?_))))) | (refine And.intro (Exists.intro _ (And.intro rfl rfl)) ?_) | (exact fun hW => absurd hW (by decide +kernel)) | (intro hW; (try simp only [Bool.not_true, Bool.not_false, Bool.not_eq_true', Bool.not_eq_false', decide_eq_true_eq, decide_eq_false_iff_not, reduceCtorEq, Bool.true_eq_false, Bool.false_eq_true, mk_size, List.size_toArray, ByteArray.size_append, ByteArray.size_extract, List.length_cons, List.length_nil, ba_get, ba_empty, Int.toNat_natCast] at hW)) | (refine And.intro (?_ : _ → _) (?_ : _ → _)) | (refine FinR.drop 0 (Nat.zero_le _) (Closed.zero _) rfl ?_) | (refine FinR.keep ?_) | (refine And.intro (det3_agg rfl) ?_) | (refine fL_mk ?_) | (refine And.intro (by (try simp only [mk_size, List.size_toArray, ByteArray.size_append, ByteArray.size_extract, List.length_cons, List.length_nil]); omega) ?_) | (refine And.intro (by (try simp only [mk_size, List.size_toArray, ByteArray.size_append, ByteArray.size_extract, List.length_cons, List.length_nil, wrap64_eq]); omega) ?_) | fail)
  refine d_DrawCanSwap (hcd := hcd) (h0 := fun d => ?_) ..
  have hl1 : d.ss.length ≤ 1048576 := by have := d.l1; omega
  have hl2 : d.ts.length ≤ 1048576 := by have := d.l2; omega
  by_cases hck : planB d.a1 d.a2 d.a3 d.a4 d.a5 d.a6 d.ss d.ts = true ∧ 0 ≤ d.k ∧ d.k + 2 ≤ d.ts.length
  · have hcn : canR d.a1 d.a2 d.a3 d.a4 d.a5 d.a6 d.ss d.ts d.k = .tup [Bo (decide (efL d.ss d.ts = efL d.ss (swL d.ts d.k.toNat))), Bo true] := by unfold canR; rw [if_pos hck]
    generalize hdd : decide (efL d.ss d.ts = efL d.ss (swL d.ts d.k.toNat)) = s at hcn
    cases s
    all_goals
      repeat' ((conv => whnf); first | (refine Exists.intro ([] : List Nat) ?_) | (refine And.intro rfl ?_) | (refine And.intro (by decide +kernel) ?_) | (refine And.intro trivial ?_) | (refine fS_mk ?_) | (refine d_sCanSwap (h1 := sli_rows d.h6 rfl) (h2 := sli_rows d.h4 rfl) (n1 := sl_nn) (n2 := sl_nn) (hx := d.h6) (hy := d.h4) (hl := hl1) (hl2 := hl2) (h0 := ?_) ..; rw [hcn]) | (refine d_CanSwap (h1 := sli_rows d.h6 rfl) (h2 := sli_rows d.h4 rfl) (hx := d.h6) (hy := d.h4) (h0 := ?_) ..; rw [hcn]) | (refine Exists.intro _ (And.intro rfl (And.intro rfl (And.intro (Nat.le_of_ble_eq_true rfl) ?_)))) | (refine Exists.intro _ (And.intro rfl (And.intro rfl (And.intro rfl (And.intro (Nat.le_of_ble_eq_true rfl) ?_))))) | (refine And.intro (Exists.intro _ (And.intro rfl rfl)) ?_) | (exact fun hW => absurd hW (by decide +kernel)) | (intro hW; (try simp only [Bool.not_true, Bool.not_false, Bool.not_eq_true', Bool.not_eq_false', decide_eq_true_eq, decide_eq_false_iff_not, reduceCtorEq, Bool.true_eq_false, Bool.false_eq_true, mk_size, List.size_toArray, ByteArray.size_append, ByteArray.size_extract, List.length_cons, List.length_nil, ba_get, ba_empty, Int.toNat_natCast] at hW)) | (refine And.intro (?_ : _ → _) (?_ : _ → _)) | (refine FinR.drop 0 (Nat.zero_le _) (Closed.zero _) rfl ?_) | (refine FinR.keep ?_) | (refine And.intro (det3_agg rfl) ?_) | (refine fL_mk ?_) | (refine And.intro (by (try simp only [mk_size, List.size_toArray, ByteArray.size_append, ByteArray.size_extract, List.length_cons, List.length_nil]); omega) ?_) | (refine And.intro (by (try simp only [mk_size, List.size_toArray, ByteArray.size_append, ByteArray.size_extract, List.length_cons, List.length_nil, wrap64_eq]); omega) ?_) | fail)
      all_goals (try (exfalso; simp_all; done))
      exact CutAt.go (.inr d) ⟨rfl, rfl, rfl, rfl, rfl, rfl, rfl, rfl, rfl, rfl, rfl, rfl, (congrArg Bo hdd).symm, rfl, trivial⟩ (.keep rfl) hck
  · have hcn : canR d.a1 d.a2 d.a3 d.a4 d.a5 d.a6 d.ss d.ts d.k = .tup [Bo false, Bo false] := by unfold canR; rw [if_neg hck]
    repeat' ((conv => whnf); first | (refine Exists.intro ([] : List Nat) ?_) | (refine And.intro rfl ?_) | (refine And.intro (by decide +kernel) ?_) | (refine And.intro trivial ?_) | (refine fS_mk ?_) | (refine d_sCanSwap (h1 := sli_rows d.h6 rfl) (h2 := sli_rows d.h4 rfl) (n1 := sl_nn) (n2 := sl_nn) (hx := d.h6) (hy := d.h4) (hl := hl1) (hl2 := hl2) (h0 := ?_) ..; rw [hcn]) | (refine d_CanSwap (h1 := sli_rows d.h6 rfl) (h2 := sli_rows d.h4 rfl) (hx := d.h6) (hy := d.h4) (h0 := ?_) ..; rw [hcn]) | (refine Exists.intro _ (And.intro rfl (And.intro rfl (And.intro (Nat.le_of_ble_eq_true rfl) ?_)))) | (refine Exists.intro _ (And.intro rfl (And.intro rfl (And.intro rfl (And.intro (Nat.le_of_ble_eq_true rfl) ?_))))) | (refine And.intro (Exists.intro _ (And.intro rfl rfl)) ?_) | (exact fun hW => absurd hW (by decide +kernel)) | (intro hW; (try simp only [Bool.not_true, Bool.not_false, Bool.not_eq_true', Bool.not_eq_false', decide_eq_true_eq, decide_eq_false_iff_not, reduceCtorEq, Bool.true_eq_false, Bool.false_eq_true, mk_size, List.size_toArray, ByteArray.size_append, ByteArray.size_extract, List.length_cons, List.length_nil, ba_get, ba_empty, Int.toNat_natCast] at hW)) | (refine And.intro (?_ : _ → _) (?_ : _ → _)) | (refine FinR.drop 0 (Nat.zero_le _) (Closed.zero _) rfl ?_) | (refine FinR.keep ?_) | (refine And.intro (det3_agg rfl) ?_) | (refine fL_mk ?_) | (refine And.intro (by (try simp only [mk_size, List.size_toArray, ByteArray.size_append, ByteArray.size_extract, List.length_cons, List.length_nil]); omega) ?_) | (refine And.intro (by (try simp only [mk_size, List.size_toArray, ByteArray.size_append, ByteArray.size_extract, List.length_cons, List.length_nil, wrap64_eq]); omega) ?_) | fail)
    all_goals (try (exfalso; simp_all; done))
    exact CutAt.go (.inl ()) ⟨rfl, rfl, rfl, rfl, rfl, rfl, rfl, rfl, rfl, rfl, rfl, trivial⟩ (.drop 14 (Nat.zero_le _) rfl hcl rfl) trivial
def efT_s1 (v : Value) (b0 b1 b2 b3 b4 b5 b6 b7 : Blk) (n cap : Nat) : Unit ⊕ (PK × PK) → List (Nat × AV)
  | .inl _ => [(0, .lit v), (3, .ptr 2 0 0), (4, .ptr 3 0 0), (5, Bo true), (8, .sl 4 n 0 n cap), (12, .ptr 7 0 0), (19, Bo false)]
  | .inr (p, q) => [(0, .lit v), (3, .ptr 2 0 0), (4, .ptr 3 0 0), (5, Bo true), (8, .sl 4 n 0 n cap), (12, .ptr 7 0 0), (16, .ptr 12 0 0), (17, .ptr 13 0 0), (18, Bo (decide (efL p.ss p.ts = efL q.ss q.ts))), (19, Bo true)]
def efT_b1 (b0 b1 b2 b3 b4 b5 b6 b7 : Blk) (n cap : Nat) : Unit ⊕ (PK × PK) → List Blk
  | .inl _ => [b0, b1, b2, b3, b4, b5, b6, b7]
  | .inr (p, q) => [b0, b1, b2, b3, b4, b5, b6, b7, shK p.ss p.r1, stK p.ts p.r2, shK q.ss q.r1, stK q.ts q.r2, plBx p.a1 p.a2 p.a3 p.a4 p.a5 p.a6 (.sl 8 p.r1 0 p.ss.length p.c1) (.sl 9 p.r2 0 p.m2 p.c2) 67, plBx q.a1 q.a2 q.a3 q.a4 q.a5 q.a6 (.sl 10 q.r1 0 q.ss.length q.c1) (.sl 11 q.r2 0 q.m2 q.c2) 67]
theorem efT_B1 (v : Value) (xs : List Int) (hcd : Code W0 v xs) (b0 b1 b2 b3 b4 b5 b6 b7 : Blk) (n cap : Nat) (hcb : Closed 8 [b0, b1, b2, b3, b4, b5, b6, b7]) {Q : CPost} (hE : RWs Try.prog W0 0 (tailN 17 r5) (frL [(0, .lit v), (3, .ptr 2 0 0), (4, .ptr 3 0 0), (5, Bo true), (8, .sl 4 n 0 n cap), (12, .ptr 7 0 0)]) [b0, b1, b2, b3, b4, b5, b6, b7] Q) : RWs Try.prog W0 0 (tailN 9 r5) (frL [(0, .lit v), (3, .ptr 2 0 0), (4, .ptr 3 0 0), (5, Bo true), (8, .sl 4 n 0 n cap), (12, .ptr 7 0 0)]) [b0, b1, b2, b3, b4, b5, b6, b7] Q := by
  refine RWs.live 3 (X := Unit ⊕ (PK × PK)) (efT_s1 v b0 b1 b2 b3 b4 b5 b6 b7 n cap) (efT_b1 b0 b1 b2 b3 b4 b5 b6 b7 n cap) efP rfl (fun hcl => ?_) ?_
  rotate_left
  · rintro (_ | ⟨p, q⟩) hpq
    · exact efT_B2V0 v xs hcd b0 b1 b2 b3 b4 b5 b6 b7 n cap hcb hE
    · exact efT_B2V1 v xs hcd b0 b1 b2 b3 b4 b5 b6 b7 n cap hcb p q hpq.1 hpq.2 hE
  repeat' ((conv => whnf); first | (refine Exists.intro ([] : List Nat) ?_) | (refine And.intro rfl ?_) | (refine And.intro (by decide +kernel) ?_) | (refine And.intro trivial ?_) | (refine fS_mk ?_) | (refine Exists.intro _ (And.intro rfl (And.intro rfl (And.intro (Nat.le_of_ble_eq_true rfl) ?_)))) | (refine Exists.intro _ (And.intro rfl (And.intro rfl (And.intro rfl (And.intro (Nat.le_of_ble_eq_true rfl) ?_))))) | (refine And.intro (Exists.intro _ (And.intro rfl rfl)) ?_) | (exact fun hW => absurd hW (by decide +kernel)) | (intro hW; (try simp only [Bool.not_true, Bool.not_false, Bool.not_eq_true', Bool.not_eq_false', decide_eq_true_eq, decide_eq_false_iff_not, reduceCtorEq, Bool.true_eq_false, Bool.false_eq_true, mk_size, List.size_toArray, ByteArray.size_append, ByteArray.size_extract, List.length_cons, List.length_nil, ba_get, ba_empty, Int.toNat_natCast] at hW)) | (refine And.intro (?_ : _ → _) (?_ : _ → _)) | (refine FinR.drop 0 (Nat.zero_le _) (Closed.zero _) rfl ?_) | (refine FinR.keep ?_) | (refine And.intro (det3_agg rfl) ?_) | (refine fL_mk ?_) | (refine And.intro (by (try simp only [mk_size, List.size_toArray, ByteArray.size_append, ByteArray.size_extract, List.length_cons, List.length_nil]); omega) ?_) | (refine And.intro (by (try simp only [mk_size, List.size_toArray, ByteArray.size_append, ByteArray.size_extract, List.length_cons, List.length_nil, wrap64_eq]); omega) ?_) | fail)
  refine d_DrawSame (hcd := hcd) (h0 := fun p q => ?_) ..
  obtain ⟨p1, p2, p3, p4, p5, p6, ps, pt, pr1, pc1, pr2, pc2, pm2, rfl, ph6, ph4, pl1, pl2⟩ := p
  obtain ⟨q1, q2, q3, q4, q5, q6, qs, qt, qr1, qc1, qr2, qc2, qm2, rfl, qh6, qh4, ql1, ql2⟩ := q
  rcases hpq : planB p1 p2 p3 p4 p5 p6 ps pt && planB q1 q2 q3 q4 q5 q6 qs qt with _ | _
  · have hsm : sameR (planB p1 p2 p3 p4 p5 p6 ps pt) (planB q1 q2 q3 q4 q5 q6 qs qt) ps pt qs qt = .tup [Bo false, Bo false] := by unfold sameR; rw [hpq]; rfl
    repeat' ((conv => whnf); first | (refine Exists.intro ([] : List Nat) ?_) | (refine And.intro rfl ?_) | (refine And.intro (by decide +kernel) ?_) | (refine And.intro trivial ?_) | (refine fS_mk ?_) | (refine d_sSameEffects (h1 := sli_rows ph6 rfl) (h2 := sli_rows ph4 rfl) (g1 := sli_rows qh6 rfl) (g2 := sli_rows qh4 rfl) (hx := ph6) (hy := ph4) (hx' := qh6) (hy' := qh4) (hl := by omega) (hl2 := by omega) (hl' := by omega) (hl2' := by omega) (h0 := ?_) ..; rw [hsm]) | (refine d_SameEffects (h1 := sli_rows ph6 rfl) (h2 := sli_rows ph4 rfl) (g1 := sli_rows qh6 rfl) (g2 := sli_rows qh4 rfl) (hx := ph6) (hy := ph4) (hx' := qh6) (hy' := qh4) (h0 := ?_) ..; rw [hsm]) | (refine Exists.intro _ (And.intro rfl (And.intro rfl (And.intro (Nat.le_of_ble_eq_true rfl) ?_)))) | (refine Exists.intro _ (And.intro rfl (And.intro rfl (And.intro rfl (And.intro (Nat.le_of_ble_eq_true rfl) ?_))))) | (refine And.intro (Exists.intro _ (And.intro rfl rfl)) ?_) | (exact fun hW => absurd hW (by decide +kernel)) | (intro hW; (try simp only [Bool.not_true, Bool.not_false, Bool.not_eq_true', Bool.not_eq_false', decide_eq_true_eq, decide_eq_false_iff_not, reduceCtorEq, Bool.true_eq_false, Bool.false_eq_true, mk_size, List.size_toArray, ByteArray.size_append, ByteArray.size_extract, List.length_cons, List.length_nil, ba_get, ba_empty, Int.toNat_natCast] at hW)) | (refine And.intro (?_ : _ → _) (?_ : _ → _)) | (refine FinR.drop 0 (Nat.zero_le _) (Closed.zero _) rfl ?_) | (refine FinR.keep ?_) | (refine And.intro (det3_agg rfl) ?_) | (refine fL_mk ?_) | (refine And.intro (by (try simp only [mk_size, List.size_toArray, ByteArray.size_append, ByteArray.size_extract, List.length_cons, List.length_nil]); omega) ?_) | (refine And.intro (by (try simp only [mk_size, List.size_toArray, ByteArray.size_append, ByteArray.size_extract, List.length_cons, List.length_nil, wrap64_eq]); omega) ?_) | fail)
    all_goals (try (exfalso; simp_all; done))
    exact CutAt.gc [0, 1, 2, 3, 4, 5, 6, 7] (by decide) (.inl ()) ⟨rfl, rfl, rfl, rfl, rfl, rfl, rfl, trivial⟩ rfl ⟨⟨_, rfl, .low 8 rfl rfl (hcb _ (by simp))⟩, ⟨_, rfl, .low 8 rfl rfl (hcb _ (by simp))⟩, ⟨_, rfl, .low 8 rfl rfl (hcb _ (by simp))⟩, ⟨_, rfl, .low 8 rfl rfl (hcb _ (by simp))⟩, ⟨_, rfl, .low 8 rfl rfl (hcb _ (by simp))⟩, ⟨_, rfl, .low 8 rfl rfl (hcb _ (by simp))⟩, ⟨_, rfl, .low 8 rfl rfl (hcb _ (by simp))⟩, ⟨_, rfl, .low 8 rfl rfl (hcb _ (by simp))⟩, rfl⟩ trivial
  · have hp1 : planB p1 p2 p3 p4 p5 p6 ps pt = true := (by rw [Bool.and_eq_true] at hpq; exact hpq.1)
    have hp2 : planB q1 q2 q3 q4 q5 q6 qs qt = true := (by rw [Bool.and_eq_true] at hpq; exact hpq.2)
    have hsm := sameU hp1 hp2 ph6 ph4 qh6 qh4
    generalize hdd : decide (efL ps pt = efL qs qt) = s at hsm
    cases s
    all_goals
      repeat' ((conv => whnf); first | (refine Exists.intro ([] : List Nat) ?_) | (refine And.intro rfl ?_) | (refine And.intro (by decide +kernel) ?_) | (refine And.intro trivial ?_) | (refine fS_mk ?_) | (refine d_sSameEffects (h1 := sli_rows ph6 rfl) (h2 := sli_rows ph4 rfl) (g1 := sli_rows qh6 rfl) (g2 := sli_rows qh4 rfl) (hx := ph6) (hy := ph4) (hx' := qh6) (hy' := qh4) (hl := by omega) (hl2 := by omega) (hl' := by omega) (hl2' := by omega) (h0 := ?_) ..; rw [hsm]) | (refine d_SameEffects (h1 := sli_rows ph6 rfl) (h2 := sli_rows ph4 rfl) (g1 := sli_rows qh6 rfl) (g2 := sli_rows qh4 rfl) (hx := ph6) (hy := ph4) (hx' := qh6) (hy' := qh4) (h0 := ?_) ..; rw [hsm]) | (refine Exists.intro _ (And.intro rfl (And.intro rfl (And.intro (Nat.le_of_ble_eq_true rfl) ?_)))) | (refine Exists.intro _ (And.intro rfl (And.intro rfl (And.intro rfl (And.intro (Nat.le_of_ble_eq_true rfl) ?_))))) | (refine And.intro (Exists.intro _ (And.intro rfl rfl)) ?_) | (exact fun hW => absurd hW (by decide +kernel)) | (intro hW; (try simp only [Bool.not_true, Bool.not_false, Bool.not_eq_true', Bool.not_eq_false', decide_eq_true_eq, decide_eq_false_iff_not, reduceCtorEq, Bool.true_eq_false, Bool.false_eq_true, mk_size, List.size_toArray, ByteArray.size_append, ByteArray.size_extract, List.length_cons, List.length_nil, ba_get, ba_empty, Int.toNat_natCast] at hW)) | (refine And.intro (?_ : _ → _) (?_ : _ → _)) | (refine FinR.drop 0 (Nat.zero_le _) (Closed.zero _) rfl ?_) | (refine FinR.keep ?_) | (refine And.intro (det3_agg rfl) ?_) | (refine fL_mk ?_) | (refine And.intro (by (try simp only [mk_size, List.size_toArray, ByteArray.size_append, ByteArray.size_extract, List.length_cons, List.length_nil]); omega) ?_) | (refine And.intro (by (try simp only [mk_size, List.size_toArray, ByteArray.size_append, ByteArray.size_extract, List.length_cons, List.length_nil, wrap64_eq]); omega) ?_) | fail)
      all_goals (try (exfalso; simp_all; done))
      exact CutAt.go (.inr (⟨p1, p2, p3, p4, p5, p6, ps, pt, pr1, pc1, pr2, pc2, pt.length, rfl, ph6, ph4, pl1, pl2⟩, ⟨q1, q2, q3, q4, q5, q6, qs, qt, qr1, qc1, qr2, qc2, qt.length, rfl, qh6, qh4, ql1, ql2⟩)) ⟨rfl, rfl, rfl, rfl, rfl, rfl, rfl, rfl, (congrArg Bo hdd).symm, rfl, trivial⟩ (.keep rfl) ⟨hp1, hp2⟩
end Go.Proofs.Ytkcbhdjhbnnlgaa
end

section
/- Contracts: the law of effects, its middle (its end). -/
set_option linter.unusedVariables false
set_option linter.unusedSimpArgs false
set_option maxRecDepth 100000
set_option maxHeartbeats 40000000
namespace Go.Proofs.Ytkcbhdjhbnnlgaa
open Go Go.RowKit Go.Proofs.Ytkcbhdjhbnnlgaa.Abs
variable {W0 : World} {σ : List Blk}
theorem kpL_all {p : List Int → Prop} {V : List Int} {ys : List (List Int)} (hy : ∀ x ∈ ys, p x) : ∀ i, i ≤ ys.length → ∀ x ∈ kpL V ys i, p x
  | 0, _, x, h => by cases h
  | i + 1, hi, x, h => by
    unfold kpL at h
    split at h
    · exact kpL_all hy i (by omega) x h
    · rcases List.mem_append.1 h with h | h
      · exact kpL_all hy i (by omega) x h
      · rw [List.mem_singleton] at h
        rw [h, List.getD_eq_getElem?_getD, List.getElem?_eq_getElem (show i < ys.length by omega)]
        exact hy _ (List.getElem_mem _)
theorem at_full {n : Nat} (hn : n < 2 ^ 36) {ss ts : List (List Int)} (hg : planB (rowN n 0 : Nat) (rowN n 1 : Nat) (rowN n 2 : Nat) (rowN n 3 : Nat) (rowN n 4 : Nat) (rowN n 5 : Nat) ss ts = true) : atR (rowN n 0 : Nat) (rowN n 1 : Nat) (rowN n 2 : Nat) (rowN n 3 : Nat) (rowN n 4 : Nat) (rowN n 5 : Nat) ss ts ts.length = .tup [ShN (runN (fsOf ss ts) n), Bo true] := by
  have e : (fsOf ss ts).take ((ts.length : Nat) : Int).toNat = fsOf ss ts := by rw [Int.toNat_natCast, ← fsOf_len ss ts]; exact List.take_length
  have e2 : stN [((rowN n 0 : Nat) : Int), (rowN n 1 : Nat), (rowN n 2 : Nat), (rowN n 3 : Nat), (rowN n 4 : Nat), (rowN n 5 : Nat)] = n := by
    simp only [stN, List.getD_cons_zero, List.getD_cons_succ, Int.toNat_natCast, setN_rows hn]
  have e3 : inB ((ts.length : Nat) : Int) 0 ((ts.length : Nat) : Int) = true := by unfold inB; rw [decide_eq_true (by omega), decide_eq_true (by omega)]; rfl
  unfold atR
  rw [hg, e3, e, e2]; rfl
theorem efv_cases (w b k : Nat) : efv w b k = 0 ∨ efv w b k = 1 ∨ efv w b k = 2 ∨ efv w b k = 3 := by
  unfold efv
  cases w.testBit k <;> cases b.testBit k <;> decide
theorem effN_get (w b : Nat) {i : Nat} (h : i < 36) : (effN w b 36).getD i 0 = efv w b i := by
  unfold effN
  rw [show 36 - 36 = 0 from rfl, List.replicate_zero, List.append_nil, List.getD_eq_getElem?_getD, List.getElem?_map, List.getElem?_range h]; rfl
theorem ef_E2 (n m : Nat) (hn : n < 2 ^ 36) (hm : m < 2 ^ 36) (ss ts : List (List Int)) (c1 c2 : Nat) (q : List Int) (hq : q.length = 36) (hok : ∀ i, i < 36 → (q.getD i 0 = 0 ∨ q.getD i 0 = 1 ∨ q.getD i 0 = 2 ∨ q.getD i 0 = 3) ∧ efOk (q.getD i 0) (n.testBit i) (m.testBit i) = true) (K : Cont) (h0 : K (Bo true) []) : RWs Try.prog W0 0 (tailN 21 r5) (frL [(3, .ptr 2 0 0), (4, .ptr 3 0 0), (35, .ptr 4 0 0)]) [shK ss ss.length, stK ts ts.length, plBx (rowN n 0 : Nat) (rowN n 1 : Nat) (rowN n 2 : Nat) (rowN n 3 : Nat) (rowN n 4 : Nat) (rowN n 5 : Nat) (.sl 0 ss.length 0 ss.length c1) (.sl 1 ts.length 0 ts.length c2) 67, ⟨q.map I, 0, 69, 0, false, false⟩, ⟨[I (rowN m 0 : Nat), I (rowN m 1 : Nat), I (rowN m 2 : Nat), I (rowN m 3 : Nat), I (rowN m 4 : Nat), I (rowN m 5 : Nat)], 0, 26, 0, false, false⟩] (finP W0 rs5 0 K) := by
  refine RWs.base fun hcl => ?_
  repeat' ((conv => whnf); first | (refine Exists.intro ([] : List Nat) ?_) | (refine And.intro rfl ?_) | (refine And.intro (by decide +kernel) ?_) | (refine And.intro trivial ?_) | (refine fS_mk ?_) | (refine Exists.intro _ (And.intro rfl (And.intro rfl (And.intro (Nat.le_of_ble_eq_true rfl) ?_)))) | (refine Exists.intro _ (And.intro rfl (And.intro rfl (And.intro rfl (And.intro (Nat.le_of_ble_eq_true rfl) ?_))))) | (refine And.intro (Exists.intro _ (And.intro rfl rfl)) ?_) | (exact fun hW => absurd hW (by decide +kernel)) | (intro hW; (try simp only [Bool.not_true, Bool.not_false, Bool.not_eq_true', Bool.not_eq_false', decide_eq_true_eq, decide_eq_false_iff_not, reduceCtorEq, Bool.true_eq_false, Bool.false_eq_true, mk_size, List.size_toArray, ByteArray.size_append, ByteArray.size_extract, List.length_cons, List.length_nil, ba_get, ba_empty, Int.toNat_natCast] at hW)) | (refine And.intro (?_ : _ → _) (?_ : _ → _)) | (refine FinR.drop 0 (Nat.zero_le _) (Closed.zero _) rfl ?_) | (refine FinR.keep ?_) | (refine And.intro (det3_agg rfl) ?_) | (refine fL_mk ?_) | (refine And.intro (by (try simp only [mk_size, List.size_toArray, ByteArray.size_append, ByteArray.size_extract, List.length_cons, List.length_nil]); omega) ?_) | (refine And.intro (by (try simp only [mk_size, List.size_toArray, ByteArray.size_append, ByteArray.size_extract, List.length_cons, List.length_nil, wrap64_eq]); omega) ?_) | fail)
  refine LoopR.live (fun i : Nat => [(3, .ptr 2 0 0), (4, .ptr 3 0 0), (35, .ptr 4 0 0), (39, I i)]) (fun _ => [shK ss ss.length, stK ts ts.length, plBx (rowN n 0 : Nat) (rowN n 1 : Nat) (rowN n 2 : Nat) (rowN n 3 : Nat) (rowN n 4 : Nat) (rowN n 5 : Nat) (.sl 0 ss.length 0 ss.length c1) (.sl 1 ts.length 0 ts.length c2) 67, ⟨q.map I, 0, 69, 0, false, false⟩, ⟨[I (rowN m 0 : Nat), I (rowN m 1 : Nat), I (rowN m 2 : Nat), I (rowN m 3 : Nat), I (rowN m 4 : Nat), I (rowN m 5 : Nat)], 0, 26, 0, false, false⟩]) (fun i => i ≤ 6) (fun i => 6 - i) 0 ⟨rfl, rfl, rfl, rfl, trivial⟩ (.keep rfl) (Nat.zero_le _) ?_
  intro i hi
  by_cases hlt : i < 6
  · skip
    repeat' ((conv => whnf); first | (refine Exists.intro ([] : List Nat) ?_) | (refine And.intro rfl ?_) | (refine And.intro (by decide +kernel) ?_) | (refine And.intro trivial ?_) | (refine fS_mk ?_) | (refine Exists.intro _ (And.intro rfl (And.intro rfl (And.intro (Nat.le_of_ble_eq_true rfl) ?_)))) | (refine Exists.intro _ (And.intro rfl (And.intro rfl (And.intro rfl (And.intro (Nat.le_of_ble_eq_true rfl) ?_))))) | (refine And.intro (Exists.intro _ (And.intro rfl rfl)) ?_) | (exact fun hW => absurd hW (by decide +kernel)) | (intro hW; (try simp only [Bool.not_true, Bool.not_false, Bool.not_eq_true', Bool.not_eq_false', decide_eq_true_eq, decide_eq_false_iff_not, reduceCtorEq, Bool.true_eq_false, Bool.false_eq_true, mk_size, List.size_toArray, ByteArray.size_append, ByteArray.size_extract, List.length_cons, List.length_nil, ba_get, ba_empty, Int.toNat_natCast] at hW)) | (refine And.intro (?_ : _ → _) (?_ : _ → _)) | (refine FinR.drop 0 (Nat.zero_le _) (Closed.zero _) rfl ?_) | (refine FinR.keep ?_) | (refine And.intro (det3_agg rfl) ?_) | (refine fL_mk ?_) | (refine And.intro (by (try simp only [mk_size, List.size_toArray, ByteArray.size_append, ByteArray.size_extract, List.length_cons, List.length_nil]); omega) ?_) | (refine And.intro (by (try simp only [mk_size, List.size_toArray, ByteArray.size_append, ByteArray.size_extract, List.length_cons, List.length_nil, wrap64_eq]); omega) ?_) | fail)
    all_goals first | (exfalso; omega) | skip
    refine LoopR.live (fun j : Nat => [(3, .ptr 2 0 0), (4, .ptr 3 0 0), (35, .ptr 4 0 0), (39, I i), (40, I j)]) (fun _ => [shK ss ss.length, stK ts ts.length, plBx (rowN n 0 : Nat) (rowN n 1 : Nat) (rowN n 2 : Nat) (rowN n 3 : Nat) (rowN n 4 : Nat) (rowN n 5 : Nat) (.sl 0 ss.length 0 ss.length c1) (.sl 1 ts.length 0 ts.length c2) 67, ⟨q.map I, 0, 69, 0, false, false⟩, ⟨[I (rowN m 0 : Nat), I (rowN m 1 : Nat), I (rowN m 2 : Nat), I (rowN m 3 : Nat), I (rowN m 4 : Nat), I (rowN m 5 : Nat)], 0, 26, 0, false, false⟩]) (fun j => j ≤ 6) (fun j => 6 - j) 0 ⟨rfl, rfl, rfl, rfl, rfl, trivial⟩ (.keep rfl) (Nat.zero_le _) ?_
    intro j hj
    by_cases hlt2 : j < 6
    · have hoff : 0 + ((i : Nat) : Int).toNat * 6 + ((j : Nat) : Int).toNat * 1 < q.length := by rw [Int.toNat_natCast, Int.toNat_natCast, hq]; omega
      obtain ⟨hc, hk⟩ := hok (6 * i + j) (by omega)
      have hcell : q.getD (0 + ((i : Nat) : Int).toNat * 6 + ((j : Nat) : Int).toNat * 1) 0 = q.getD (6 * i + j) 0 := by rw [Int.toNat_natCast, Int.toNat_natCast, show 0 + i * 6 + j * 1 = 6 * i + j by omega]
      generalize q.getD (6 * i + j) 0 = e at hc hk hcell
      generalize eb : n.testBit (6 * i + j) = bb at hk
      generalize ea : m.testBit (6 * i + j) = ab at hk
      rcases hc with rfl | rfl | rfl | rfl <;> cases bb <;> cases ab
      all_goals first | (exfalso; revert hk; decide) | skip
      all_goals
        repeat' ((conv => whnf); first | (refine Exists.intro _ (And.intro rfl (And.intro rfl (And.intro (cell_le hoff) ?_))); rw [cell_ld hoff, hcell]) | (refine Exists.intro ([] : List Nat) ?_) | (refine And.intro rfl ?_) | (refine And.intro (by decide +kernel) ?_) | (refine And.intro trivial ?_) | (refine fS_mk ?_) | (refine d_BlackT (hn := hn) (hx := hlt2) (hy := hlt) (h0 := ?_) ..; rw [eb]) | (refine d_BlackT (hn := hm) (hx := hlt2) (hy := hlt) (h0 := ?_) ..; rw [ea]) | (refine Exists.intro _ (And.intro rfl (And.intro rfl (And.intro (Nat.le_of_ble_eq_true rfl) ?_)))) | (refine Exists.intro _ (And.intro rfl (And.intro rfl (And.intro rfl (And.intro (Nat.le_of_ble_eq_true rfl) ?_))))) | (refine And.intro (Exists.intro _ (And.intro rfl rfl)) ?_) | (exact fun hW => absurd hW (by decide +kernel)) | (intro hW; (try simp only [Bool.not_true, Bool.not_false, Bool.not_eq_true', Bool.not_eq_false', decide_eq_true_eq, decide_eq_false_iff_not, reduceCtorEq, Bool.true_eq_false, Bool.false_eq_true, mk_size, List.size_toArray, ByteArray.size_append, ByteArray.size_extract, List.length_cons, List.length_nil, ba_get, ba_empty, Int.toNat_natCast] at hW)) | (refine And.intro (?_ : _ → _) (?_ : _ → _)) | (refine FinR.drop 0 (Nat.zero_le _) (Closed.zero _) rfl ?_) | (refine FinR.keep ?_) | (refine And.intro (det3_agg rfl) ?_) | (refine fL_mk ?_) | (refine And.intro (by (try simp only [mk_size, List.size_toArray, ByteArray.size_append, ByteArray.size_extract, List.length_cons, List.length_nil]); omega) ?_) | (refine And.intro (by (try simp only [mk_size, List.size_toArray, ByteArray.size_append, ByteArray.size_extract, List.length_cons, List.length_nil, wrap64_eq]); omega) ?_) | fail)
        all_goals (try (exfalso; first | omega | (simp_all; done)))
        exact Again.go (j + 1) ⟨rfl, rfl, rfl, rfl, slI' (wsucc' j (by omega)), trivial⟩ (.keep rfl) (by omega) (by omega)
    · obtain rfl : j = 6 := by omega
      repeat' ((conv => whnf); first | (refine Exists.intro ([] : List Nat) ?_) | (refine And.intro rfl ?_) | (refine And.intro (by decide +kernel) ?_) | (refine And.intro trivial ?_) | (refine fS_mk ?_) | (refine Exists.intro _ (And.intro rfl (And.intro rfl (And.intro (Nat.le_of_ble_eq_true rfl) ?_)))) | (refine Exists.intro _ (And.intro rfl (And.intro rfl (And.intro rfl (And.intro (Nat.le_of_ble_eq_true rfl) ?_))))) | (refine And.intro (Exists.intro _ (And.intro rfl rfl)) ?_) | (exact fun hW => absurd hW (by decide +kernel)) | (intro hW; (try simp only [Bool.not_true, Bool.not_false, Bool.not_eq_true', Bool.not_eq_false', decide_eq_true_eq, decide_eq_false_iff_not, reduceCtorEq, Bool.true_eq_false, Bool.false_eq_true, mk_size, List.size_toArray, ByteArray.size_append, ByteArray.size_extract, List.length_cons, List.length_nil, ba_get, ba_empty, Int.toNat_natCast] at hW)) | (refine And.intro (?_ : _ → _) (?_ : _ → _)) | (refine FinR.drop 0 (Nat.zero_le _) (Closed.zero _) rfl ?_) | (refine FinR.keep ?_) | (refine And.intro (det3_agg rfl) ?_) | (refine fL_mk ?_) | (refine And.intro (by (try simp only [mk_size, List.size_toArray, ByteArray.size_append, ByteArray.size_extract, List.length_cons, List.length_nil]); omega) ?_) | (refine And.intro (by (try simp only [mk_size, List.size_toArray, ByteArray.size_append, ByteArray.size_extract, List.length_cons, List.length_nil, wrap64_eq]); omega) ?_) | fail)
      all_goals (try (exfalso; first | omega | (simp_all; done)))
      exact Again.go (i + 1) ⟨rfl, rfl, rfl, slI' (wsucc' i (by omega)), trivial⟩ (.keep rfl) (by omega) (by omega)
  · obtain rfl : i = 6 := by omega
    repeat' ((conv => whnf); first | (refine Exists.intro ([] : List Nat) ?_) | (refine And.intro rfl ?_) | (refine And.intro (by decide +kernel) ?_) | (refine And.intro trivial ?_) | (refine fS_mk ?_) | (refine Exists.intro _ (And.intro rfl (And.intro rfl (And.intro (Nat.le_of_ble_eq_true rfl) ?_)))) | (refine Exists.intro _ (And.intro rfl (And.intro rfl (And.intro rfl (And.intro (Nat.le_of_ble_eq_true rfl) ?_))))) | (refine And.intro (Exists.intro _ (And.intro rfl rfl)) ?_) | (exact fun hW => absurd hW (by decide +kernel)) | (intro hW; (try simp only [Bool.not_true, Bool.not_false, Bool.not_eq_true', Bool.not_eq_false', decide_eq_true_eq, decide_eq_false_iff_not, reduceCtorEq, Bool.true_eq_false, Bool.false_eq_true, mk_size, List.size_toArray, ByteArray.size_append, ByteArray.size_extract, List.length_cons, List.length_nil, ba_get, ba_empty, Int.toNat_natCast] at hW)) | (refine And.intro (?_ : _ → _) (?_ : _ → _)) | (refine FinR.drop 0 (Nat.zero_le _) (Closed.zero _) rfl ?_) | (refine FinR.keep ?_) | (refine And.intro (det3_agg rfl) ?_) | (refine fL_mk ?_) | (refine And.intro (by (try simp only [mk_size, List.size_toArray, ByteArray.size_append, ByteArray.size_extract, List.length_cons, List.length_nil]); omega) ?_) | (refine And.intro (by (try simp only [mk_size, List.size_toArray, ByteArray.size_append, ByteArray.size_extract, List.length_cons, List.length_nil, wrap64_eq]); omega) ?_) | fail)
    all_goals first | exact h0 | (exfalso; first | omega | (simp_all; done))
theorem ef_E (v : Value) (n : Nat) (hn : n < 2 ^ 36) (ss ts L : List (List Int)) (q V : List Int) (r1 x1 r2 x2 c1 c2 cap : Nat) (h6 : ∀ x ∈ ss, x.length = 6) (h4 : ∀ x ∈ ts, x.length = 4) (l1 : ss.length ≤ 100) (l2 : ts.length ≤ 100) (hg : planB (rowN n 0 : Nat) (rowN n 1 : Nat) (rowN n 2 : Nat) (rowN n 3 : Nat) (rowN n 4 : Nat) (rowN n 5 : Nat) ss ts = true) (hq : efL ss ts = q) (hV : vainL ss ts n = V) (hL : kpL V ts ts.length = L) (K : Cont) (h0 : K (Bo true) []) : RWs Try.prog W0 0 (tailN 17 r5) (frL [(0, .lit v), (3, .ptr 2 0 0), (4, .ptr 3 0 0), (5, Bo true), (8, .sl 4 V.length 0 V.length cap), (12, .ptr 7 0 0)]) [shK ss ss.length, stK ts ts.length, plBx (rowN n 0 : Nat) (rowN n 1 : Nat) (rowN n 2 : Nat) (rowN n 3 : Nat) (rowN n 4 : Nat) (rowN n 5 : Nat) (.sl 0 ss.length 0 ss.length c1) (.sl 1 ts.length 0 ts.length c2) 67, ⟨q.map I, 0, 69, 0, false, false⟩, outB V, shK ss r1, stK L r2, plBx (rowN n 0 : Nat) (rowN n 1 : Nat) (rowN n 2 : Nat) (rowN n 3 : Nat) (rowN n 4 : Nat) (rowN n 5 : Nat) (.sl 5 r1 0 ss.length x1) (.sl 6 r2 0 L.length x2) 67] (finP W0 rs5 0 K) := by
  obtain ⟨g1, g2, g3, hxa, hya⟩ := planB_iff.1 hg
  have hf := fsOf_ok h6 h4 hxa hya
  have hL4 : ∀ x ∈ L, x.length = 4 := by rw [← hL]; exact kpL_rows h4 _ (Nat.le_refl _)
  have hLl : L.length ≤ ts.length := by rw [← hL]; exact kpL_len _ _ _
  have hgL : planB (rowN n 0 : Nat) (rowN n 1 : Nat) (rowN n 2 : Nat) (rowN n 3 : Nat) (rowN n 4 : Nat) (rowN n 5 : Nat) ss L = true := planB_iff.2 ⟨g1, g2, by omega, hxa, List.all_eq_true.2 (by rw [← hL]; exact kpL_all (List.all_eq_true.1 hya) _ (Nat.le_refl _))⟩
  have hcnt : L.length + V.length = ts.length := by rw [← hL, ← hV]; exact kp_count (ys := ts) ts.length (Nat.le_refl _)
  have hat1 := at_full hn hg
  have hat2 := at_full hn hgL
  have hrun : runN (fsOf ss L) n = runN (fsOf ss ts) n := by
    rw [← hL, ← hV]
    have := kp_run (xs := ss) (ys := ts) (n := n) ts.length (Nat.le_refl _)
    rw [this, ← fsOf_len ss ts, List.take_length]
  rw [hrun] at hat2
  have hm : runN (fsOf ss ts) n < 2 ^ 36 := runN_lt hf hn
  have hql : q.length = 36 := by rw [← hq]; exact effN_len _ _ (Nat.le_refl _)
  have hok : ∀ i, i < 36 → (q.getD i 0 = 0 ∨ q.getD i 0 = 1 ∨ q.getD i 0 = 2 ∨ q.getD i 0 = 3) ∧ efOk (q.getD i 0) (n.testBit i) ((runN (fsOf ss ts) n).testBit i) = true := by
    intro i hi
    rw [← hq, effN_get _ _ hi]
    exact ⟨efv_cases _ _ _, efv_ok (fsOf ss ts) n hi⟩
  have ewl : IntKind.i64.wrap (((ts.length : Nat) : Int) - ((V.length : Nat) : Int)) = ((L.length : Nat) : Int) := by rw [wrap_i64 _ (by omega) (by omega)]; omega
  generalize runN (fsOf ss ts) n = m at hat1 hat2 hm hok
  clear hq hV hL hrun
  refine RWs.live 4 (X := Unit) (fun _ => [(3, .ptr 2 0 0), (4, .ptr 3 0 0), (35, .ptr 4 0 0)]) (fun _ => [shK ss ss.length, stK ts ts.length, plBx (rowN n 0 : Nat) (rowN n 1 : Nat) (rowN n 2 : Nat) (rowN n 3 : Nat) (rowN n 4 : Nat) (rowN n 5 : Nat) (.sl 0 ss.length 0 ss.length c1) (.sl 1 ts.length 0 ts.length c2) 67, ⟨q.map I, 0, 69, 0, false, false⟩, ⟨[I (rowN m 0 : Nat), I (rowN m 1 : Nat), I (rowN m 2 : Nat), I (rowN m 3 : Nat), I (rowN m 4 : Nat), I (rowN m 5 : Nat)], 0, 26, 0, false, false⟩]) (fun _ => True) rfl (fun hcl => ?_) (fun _ _ => ef_E2 n m hn hm ss ts c1 c2 q hql hok K h0)
  repeat' ((conv => whnf); first | (rw [ewl]) | (refine Exists.intro ([] : List Nat) ?_) | (refine And.intro rfl ?_) | (refine And.intro (by decide +kernel) ?_) | (refine And.intro trivial ?_) | (refine fS_mk ?_) | (refine d_EndOf (h1 := sli_rows h6 rfl) (h2 := sli_rows h4 rfl) (hx := h6) (hy := h4) (h0 := ?_) ..; rw [hat1]) | (refine d_EndOf (h1 := sli_rows h6 rfl) (h2 := sli_rows hL4 rfl) (hx := h6) (hy := hL4) (h0 := ?_) ..; rw [hat2]) | (refine Exists.intro _ (And.intro rfl (And.intro rfl (And.intro (Nat.le_of_ble_eq_true rfl) ?_)))) | (refine Exists.intro _ (And.intro rfl (And.intro rfl (And.intro rfl (And.intro (Nat.le_of_ble_eq_true rfl) ?_))))) | (refine And.intro (Exists.intro _ (And.intro rfl rfl)) ?_) | (exact fun hW => absurd hW (by decide +kernel)) | (intro hW; (try simp only [Bool.not_true, Bool.not_false, Bool.not_eq_true', Bool.not_eq_false', decide_eq_true_eq, decide_eq_false_iff_not, reduceCtorEq, Bool.true_eq_false, Bool.false_eq_true, mk_size, List.size_toArray, ByteArray.size_append, ByteArray.size_extract, List.length_cons, List.length_nil, ba_get, ba_empty, Int.toNat_natCast] at hW)) | (refine And.intro (?_ : _ → _) (?_ : _ → _)) | (refine FinR.drop 0 (Nat.zero_le _) (Closed.zero _) rfl ?_) | (refine FinR.keep ?_) | (refine And.intro (det3_agg rfl) ?_) | (refine fL_mk ?_) | (refine And.intro (by (try simp only [mk_size, List.size_toArray, ByteArray.size_append, ByteArray.size_extract, List.length_cons, List.length_nil]); omega) ?_) | (refine And.intro (by (try simp only [mk_size, List.size_toArray, ByteArray.size_append, ByteArray.size_extract, List.length_cons, List.length_nil, wrap64_eq]); omega) ?_) | fail)
  all_goals (try (exfalso; simp_all; done))
  exact CutAt.gc [0, 1, 2, 3, 8] (by decide) () ⟨rfl, rfl, rfl, trivial⟩ rfl ⟨⟨_, rfl, .lits rfl (jc_lits _)⟩, ⟨_, rfl, .lits rfl (jc_lits _)⟩, ⟨_, rfl, .ren rfl rfl⟩, ⟨_, rfl, .lits rfl (ints_lits q)⟩, ⟨_, rfl, .ren rfl rfl⟩, rfl⟩ trivial
end Go.Proofs.Ytkcbhdjhbnnlgaa
end

section
/- Contracts: the law of effects, its middle (its beginning, and the law). -/
set_option linter.unusedVariables false
set_option linter.unusedSimpArgs false
set_option maxRecDepth 100000
set_option maxHeartbeats 40000000
namespace Go.Proofs.Ytkcbhdjhbnnlgaa
open Go Go.RowKit Go.Proofs.Ytkcbhdjhbnnlgaa.Abs
variable {W0 : World} {σ : List Blk}
structure TX where
  (n : Nat)
  (ss ts L : List (List Int))
  (q V : List Int)
  (r1 x1 r2 x2 c1 c2 cap : Nat)
  hn : n < 2 ^ 36
  h6 : ∀ x ∈ ss, x.length = 6
  h4 : ∀ x ∈ ts, x.length = 4
  l1 : ss.length ≤ 100
  l2 : ts.length ≤ 100
  hg : planB (rowN n 0 : Nat) (rowN n 1 : Nat) (rowN n 2 : Nat) (rowN n 3 : Nat) (rowN n 4 : Nat) (rowN n 5 : Nat) ss ts = true
  hq : efL ss ts = q
  hV : vainL ss ts n = V
  hL : kpL V ts ts.length = L
def TXsh (v : Value) : Unit ⊕ TX → List (Nat × AV)
  | .inl _ => [(0, .lit v), (5, Bo false)]
  | .inr ⟨n, ss, ts, L, q, V, r1, x1, r2, x2, c1, c2, cap, hn, h6, h4, l1, l2, hg, hq, hV, hL⟩ => [(0, .lit v), (3, .ptr 2 0 0), (4, .ptr 3 0 0), (5, Bo true), (8, .sl 4 V.length 0 V.length cap), (12, .ptr 7 0 0)]
def TXst : Unit ⊕ TX → List Blk
  | .inl _ => []
  | .inr ⟨n, ss, ts, L, q, V, r1, x1, r2, x2, c1, c2, cap, hn, h6, h4, l1, l2, hg, hq, hV, hL⟩ => [shK ss ss.length, stK ts ts.length, plBx (rowN n 0 : Nat) (rowN n 1 : Nat) (rowN n 2 : Nat) (rowN n 3 : Nat) (rowN n 4 : Nat) (rowN n 5 : Nat) (.sl 0 ss.length 0 ss.length c1) (.sl 1 ts.length 0 ts.length c2) 67, ⟨q.map I, 0, 69, 0, false, false⟩, outB V, shK ss r1, stK L r2, plBx (rowN n 0 : Nat) (rowN n 1 : Nat) (rowN n 2 : Nat) (rowN n 3 : Nat) (rowN n 4 : Nat) (rowN n 5 : Nat) (.sl 5 r1 0 ss.length x1) (.sl 6 r2 0 L.length x2) 67]
theorem ef_blk (q : List Int) : (⟨(List.replicate 36 (AV.lit (.int .i64 0))).take 0 ++ q.map I ++ (List.replicate 36 (AV.lit (.int .i64 0))).drop (0 + 36), 0, 69, 0, false, false⟩ : Blk) = ⟨q.map I, 0, 69, 0, false, false⟩ := by
  rw [show (List.replicate 36 (AV.lit (.int .i64 0))).take 0 ++ q.map I ++ (List.replicate 36 (AV.lit (.int .i64 0))).drop (0 + 36) = q.map I ++ [] from rfl, List.append_nil]
theorem mapI_inj : ∀ {l m : List Int}, l.map I = m.map I → l = m
  | [], [], _ => rfl
  | [], b :: m, h => by cases h
  | a :: l, [], h => by cases h
  | a :: l, b :: m, h => by
    rw [List.map_cons, List.map_cons] at h
    injection h with h1 h2
    injection h1 with h1
    injection h1 with _ h1
    rw [h1, mapI_inj h2]
theorem c_law_Effects1 (v : Value) (xs : List Int) (hcd : Code W0 v xs) (hz : ¬ (65536 < (xs.length : Int))) (K : Cont) (h0 : K (Bo true) []) : ACall Try.prog W0 5 [.lit v] [] K := by
  refine ACall.introS (rs := rs5) mixed Try.func5 (by kernel_rfl) k5 (by kernel_rfl) (Nat.le_of_ble_eq_true rfl) ?_
  show RWs Try.prog W0 0 r5 (initFr [.lit v]) [] (finP W0 rs5 0 K)
  refine RWs.live 9 (TXsh v) TXst (fun _ => True) rfl (fun hcl => ?_) ?_
  rotate_left
  · rintro (_ | ⟨n, ss, ts, L, q, V, r1, x1, r2, x2, c1, c2, cap, hn, h6, h4, l1, l2, hg, hq, hV, hL⟩) _
    · refine efF_B1 v xs hcd (RWs.base fun hcl => ?_)
      repeat' ((conv => whnf); first | (refine Exists.intro ([] : List Nat) ?_) | (refine And.intro rfl ?_) | (refine And.intro (by decide +kernel) ?_) | (refine And.intro trivial ?_) | (refine fS_mk ?_) | (refine Exists.intro _ (And.intro rfl (And.intro rfl (And.intro (Nat.le_of_ble_eq_true rfl) ?_)))) | (refine Exists.intro _ (And.intro rfl (And.intro rfl (And.intro rfl (And.intro (Nat.le_of_ble_eq_true rfl) ?_))))) | (refine And.intro (Exists.intro _ (And.intro rfl rfl)) ?_) | (exact fun hW => absurd hW (by decide +kernel)) | (intro hW; (try simp only [Bool.not_true, Bool.not_false, Bool.not_eq_true', Bool.not_eq_false', decide_eq_true_eq, decide_eq_false_iff_not, reduceCtorEq, Bool.true_eq_false, Bool.false_eq_true, mk_size, List.size_toArray, ByteArray.size_append, ByteArray.size_extract, List.length_cons, List.length_nil, ba_get, ba_empty, Int.toNat_natCast] at hW)) | (refine And.intro (?_ : _ → _) (?_ : _ → _)) | (refine FinR.drop 0 (Nat.zero_le _) (Closed.zero _) rfl ?_) | (refine FinR.keep ?_) | (refine And.intro (det3_agg rfl) ?_) | (refine fL_mk ?_) | (refine And.intro (by (try simp only [mk_size, List.size_toArray, ByteArray.size_append, ByteArray.size_extract, List.length_cons, List.length_nil]); omega) ?_) | (refine And.intro (by (try simp only [mk_size, List.size_toArray, ByteArray.size_append, ByteArray.size_extract, List.length_cons, List.length_nil, wrap64_eq]); omega) ?_) | fail)
      all_goals first | exact h0 | (exfalso; simp_all; done)
    · exact RWs.closed fun hcb => efT_B1 v xs hcd _ _ _ _ _ _ _ _ _ _ hcb (ef_E v n hn ss ts L q V r1 x1 r2 x2 c1 c2 cap h6 h4 l1 l2 hg hq hV hL K h0)
  repeat' ((conv => whnf); first | (refine Exists.intro ([] : List Nat) ?_) | (refine And.intro rfl ?_) | (refine And.intro (by decide +kernel) ?_) | (refine And.intro trivial ?_) | (refine c_rBig (hs := hcd.sli) (h0 := ?_) ..; rw [decide_eq_false hz]) | (refine Exists.intro _ (And.intro rfl (And.intro rfl (And.intro (Nat.le_of_ble_eq_true rfl) ?_)))) | (refine Exists.intro _ (And.intro rfl (And.intro rfl (And.intro rfl (And.intro (Nat.le_of_ble_eq_true rfl) ?_))))) | (refine And.intro (Exists.intro _ (And.intro rfl rfl)) ?_) | (exact fun hW => absurd hW (by decide +kernel)) | (intro hW; (try simp only [Bool.not_true, Bool.not_false, Bool.not_eq_true', Bool.not_eq_false', decide_eq_true_eq, decide_eq_false_iff_not, reduceCtorEq, Bool.true_eq_false, Bool.false_eq_true, mk_size, List.size_toArray, ByteArray.size_append, ByteArray.size_extract, List.length_cons, List.length_nil, ba_get, ba_empty, Int.toNat_natCast] at hW)) | (refine And.intro (?_ : _ → _) (?_ : _ → _)) | (refine FinR.drop 0 (Nat.zero_le _) (Closed.zero _) rfl ?_) | (refine FinR.keep ?_) | (refine And.intro (det3_agg rfl) ?_) | (refine fL_mk ?_) | (refine And.intro (by (try simp only [mk_size, List.size_toArray, ByteArray.size_append, ByteArray.size_extract, List.length_cons, List.length_nil]); omega) ?_) | (refine And.intro (by (try simp only [mk_size, List.size_toArray, ByteArray.size_append, ByteArray.size_extract, List.length_cons, List.length_nil, wrap64_eq]); omega) ?_) | fail)
  all_goals (try (exfalso; simp_all; done))
  refine c_DrawEffectsOf v xs hcd _ ?_
  rintro ⟨a1, a2, a3, a4, a5, a6, k, ss, ts, c1, c2, h6, h4, l1, l2⟩
  obtain ⟨q, bb, hq, hef⟩ := efR_form a1 a2 a3 a4 a5 a6 ss ts
  rcases hg : planB a1 a2 a3 a4 a5 a6 ss ts with _ | _
  · have hbb : bb = false := by rw [efR, hg] at hef; injection hef with h; injection h with _ h; injection h with h _; injection h with h; injection h with h; exact h.symm
    subst hbb
    repeat' ((conv => whnf); first | (refine Exists.intro _ (And.intro rfl (And.intro rfl (And.intro (pic_len hq) (And.intro (Nat.le_of_ble_eq_true rfl) ?_))))) | (refine Exists.intro _ (And.intro rfl (And.intro rfl (And.intro (pic_rle hq _) ?_))); rw [pic_res hq _]) | (rw [lits_I]) | (rw [eqC36 hq hq]) | (refine Exists.intro ([] : List Nat) ?_) | (refine And.intro rfl ?_) | (refine And.intro (by decide +kernel) ?_) | (refine And.intro trivial ?_) | (refine fS_mk ?_) | (refine d_sEffectsOf (h1 := sli_rows h6 rfl) (h2 := sli_rows h4 rfl) (hx := h6) (hy := h4) (hl := by omega) (hl2 := by omega) (h0 := ?_) ..; rw [hef]) | (refine d_EffectsOf (h1 := sli_rows h6 rfl) (h2 := sli_rows h4 rfl) (hx := h6) (hy := h4) (h0 := ?_) ..; rw [hef]) | (refine d_IsPlan (h1 := sli_rows h6 rfl) (h2 := sli_rows h4 rfl) (hx := h6) (hy := h4) (h0 := ?_) ..; rw [hg]) | (refine d_sVainF (h1 := sli_rows h6 rfl) (h2 := sli_rows h4 rfl) (hx := h6) (hy := h4) (hl := by omega) (hl2 := by omega) (hg := hg) (h0 := fun A => ?_) ..) | (refine d_VainF (h1 := sli_rows h6 rfl) (h2 := sli_rows h4 rfl) (hx := h6) (hy := h4) (hg := hg) (h0 := ?_) ..) | (refine d_rInts (xs := []) (ha := .nil) (hb' := sli_ints rfl) (hl := by decide) (h0 := ?_) ..) | (refine d_sDropVF (h1 := sli_rows h6 rfl) (h2 := sli_rows h4 rfl) (n1 := sl_nn) (n2 := sl_nn) (hx := h6) (hy := h4) (hl := by omega) (hl2 := by omega) (hg := hg) (h0 := ?_) ..) | (refine d_DropVF (h1 := sli_rows h6 rfl) (h2 := sli_rows h4 rfl) (n1 := sl_nn) (n2 := sl_nn) (hx := h6) (hy := h4) (hg := hg) (h0 := ?_) ..) | (refine d_rPlan (xs := []) (ys := []) (h1 := .nil) (h2 := .nil) (g1 := .nil) (g2 := .nil) (hx := by simp) (hy := by simp) (hl := by decide) (hl2 := by decide) (h0 := ?_) ..) | (refine Exists.intro _ (And.intro rfl (And.intro rfl (And.intro (Nat.le_of_ble_eq_true rfl) ?_)))) | (refine Exists.intro _ (And.intro rfl (And.intro rfl (And.intro rfl (And.intro (Nat.le_of_ble_eq_true rfl) ?_))))) | (refine And.intro (Exists.intro _ (And.intro rfl rfl)) ?_) | (exact fun hW => absurd hW (by decide +kernel)) | (intro hW; (try simp only [Bool.not_true, Bool.not_false, Bool.not_eq_true', Bool.not_eq_false', decide_eq_true_eq, decide_eq_false_iff_not, reduceCtorEq, Bool.true_eq_false, Bool.false_eq_true, mk_size, List.size_toArray, ByteArray.size_append, ByteArray.size_extract, List.length_cons, List.length_nil, ba_get, ba_empty, Int.toNat_natCast] at hW)) | (refine And.intro (?_ : _ → _) (?_ : _ → _)) | (refine FinR.drop 0 (Nat.zero_le _) (Closed.zero _) rfl ?_) | (refine FinR.keep ?_) | (refine And.intro (det3_agg rfl) ?_) | (refine fL_mk ?_) | (refine And.intro (by (try simp only [mk_size, List.size_toArray, ByteArray.size_append, ByteArray.size_extract, List.length_cons, List.length_nil]); omega) ?_) | (refine And.intro (by (try simp only [mk_size, List.size_toArray, ByteArray.size_append, ByteArray.size_extract, List.length_cons, List.length_nil, wrap64_eq]); omega) ?_) | fail)
    all_goals (try (exfalso; simp_all; done))
    exact CutAt.go (.inl ()) ⟨rfl, rfl, trivial⟩ (.drop 0 (Nat.zero_le _) rfl (fun B hB => by cases hB) rfl) trivial
  · obtain ⟨n, hn, rfl, rfl, rfl, rfl, rfl, rfl, hst⟩ := st_parts (planB_iff.1 hg).1
    have hef' := hef
    rw [efR, hg, if_pos rfl] at hef'
    injection hef' with hef'
    injection hef' with he1 he2
    injection he1 with he1
    have hqe := mapI_inj he1
    injection he2 with he2 _
    injection he2 with he2
    injection he2 with he2
    subst he2
    clear he1
    obtain ⟨V, hV⟩ : ∃ V, vainL ss ts (stN [((rowN n 0 : Nat) : Int), (rowN n 1 : Nat), (rowN n 2 : Nat), (rowN n 3 : Nat), (rowN n 4 : Nat), (rowN n 5 : Nat)]) = V := ⟨_, rfl⟩
    have hV' : vainL ss ts n = V := by rw [hst] at hV; exact hV
    obtain ⟨L, hL⟩ : ∃ L, kpL (vainL ss ts (stN [((rowN n 0 : Nat) : Int), (rowN n 1 : Nat), (rowN n 2 : Nat), (rowN n 3 : Nat), (rowN n 4 : Nat), (rowN n 5 : Nat)])) ts ts.length = L := ⟨_, rfl⟩
    have hL' : kpL V ts ts.length = L := by rw [hV] at hL; exact hL
    have hVl : V.length ≤ 1048576 := by rw [← hV]; exact Nat.le_trans (selN_len _ _) (by omega)
    have hLl : L.length ≤ 1048576 := by rw [← hL]; exact Nat.le_trans (kpL_len _ _ _) (by omega)
    have hL4 : ∀ x ∈ L, x.length = 4 := by rw [← hL]; exact kpL_rows h4 _ (Nat.le_refl _)
    repeat' ((conv => whnf); first | (refine Exists.intro _ (And.intro rfl (And.intro rfl (And.intro (pic_len hq) (And.intro (Nat.le_of_ble_eq_true rfl) ?_))))) | (refine Exists.intro _ (And.intro rfl (And.intro rfl (And.intro (pic_rle hq _) ?_))); rw [pic_res hq _]) | (rw [lits_I]) | (rw [eqC36 hq hq]) | (refine Exists.intro ([] : List Nat) ?_) | (refine And.intro rfl ?_) | (refine And.intro (by decide +kernel) ?_) | (refine And.intro trivial ?_) | (refine fS_mk ?_) | (refine d_sEffectsOf (h1 := sli_rows h6 rfl) (h2 := sli_rows h4 rfl) (hx := h6) (hy := h4) (hl := by omega) (hl2 := by omega) (h0 := ?_) ..; rw [hef]) | (refine d_EffectsOf (h1 := sli_rows h6 rfl) (h2 := sli_rows h4 rfl) (hx := h6) (hy := h4) (h0 := ?_) ..; rw [hef]) | (refine d_IsPlan (h1 := sli_rows h6 rfl) (h2 := sli_rows h4 rfl) (hx := h6) (hy := h4) (h0 := ?_) ..; rw [hg]) | (refine d_sVainC (h1 := sli_rows h6 rfl) (h2 := sli_rows h4 rfl) (hx := h6) (hy := h4) (hl := by omega) (hl2 := by omega) (hg := hg) (hL := hV.symm) (h0 := fun cap => ?_) ..) | (refine d_VainC (h1 := sli_rows h6 rfl) (h2 := sli_rows h4 rfl) (hx := h6) (hy := h4) (hg := hg) (hL := hV.symm) (h0 := fun cap => ?_) ..) | (refine d_rInts (xs := V) (ha := sli_ints rfl) (hb' := sli_ints rfl) (hl := hVl) (h0 := ?_) ..) | (refine d_sDropC (L := L) (hL := hL.symm) (h1 := sli_rows h6 rfl) (h2 := sli_rows h4 rfl) (n1 := sl_nn) (n2 := sl_nn) (hx := h6) (hy := h4) (hl := by omega) (hl2 := by omega) (hg := hg) (h0 := fun r1 c1 r2 c2 => ?_) ..) | (refine d_DropC (L := L) (hL := hL.symm) (h1 := sli_rows h6 rfl) (h2 := sli_rows h4 rfl) (n1 := sl_nn) (n2 := sl_nn) (hx := h6) (hy := h4) (hg := hg) (h0 := fun r1 c1 r2 c2 => ?_) ..) | (refine d_rPlan (xs := ss) (ys := L) (h1 := sli_rows h6 rfl) (h2 := sli_rows hL4 rfl) (g1 := sli_rows h6 rfl) (g2 := sli_rows hL4 rfl) (hx := h6) (hy := hL4) (hl := by omega) (hl2 := hLl) (h0 := ?_) ..) | (refine Exists.intro _ (And.intro rfl (And.intro rfl (And.intro (Nat.le_of_ble_eq_true rfl) ?_)))) | (refine Exists.intro _ (And.intro rfl (And.intro rfl (And.intro rfl (And.intro (Nat.le_of_ble_eq_true rfl) ?_))))) | (refine And.intro (Exists.intro _ (And.intro rfl rfl)) ?_) | (exact fun hW => absurd hW (by decide +kernel)) | (intro hW; (try simp only [Bool.not_true, Bool.not_false, Bool.not_eq_true', Bool.not_eq_false', decide_eq_true_eq, decide_eq_false_iff_not, reduceCtorEq, Bool.true_eq_false, Bool.false_eq_true, mk_size, List.size_toArray, ByteArray.size_append, ByteArray.size_extract, List.length_cons, List.length_nil, ba_get, ba_empty, Int.toNat_natCast] at hW)) | (refine And.intro (?_ : _ → _) (?_ : _ → _)) | (refine FinR.drop 0 (Nat.zero_le _) (Closed.zero _) rfl ?_) | (refine FinR.keep ?_) | (refine And.intro (det3_agg rfl) ?_) | (refine fL_mk ?_) | (refine And.intro (by (try simp only [mk_size, List.size_toArray, ByteArray.size_append, ByteArray.size_extract, List.length_cons, List.length_nil]); omega) ?_) | (refine And.intro (by (try simp only [mk_size, List.size_toArray, ByteArray.size_append, ByteArray.size_extract, List.length_cons, List.length_nil, wrap64_eq]); omega) ?_) | fail)
    all_goals (try (exfalso; simp_all; done))
    exact CutAt.gc [0, 1, 2, 3, 5, 7, 8, 9] (by decide) (.inr ⟨n, ss, ts, L, q, V, _, _, _, _, _, _, _, hn, h6, h4, l1, l2, hg, hqe, hV', hL'⟩) ⟨rfl, rfl, rfl, rfl, rfl, rfl, trivial⟩ rfl ⟨⟨_, rfl, .lits rfl (jc_lits _)⟩, ⟨_, rfl, .lits rfl (jc_lits _)⟩, ⟨_, rfl, .ren rfl rfl⟩, ⟨_, rfl, .lits (ef_blk q) (ints_lits q)⟩, ⟨_, rfl, .lits rfl (ints_lits V)⟩, ⟨_, rfl, .lits rfl (jc_lits _)⟩, ⟨_, rfl, .lits rfl (jc_lits _)⟩, ⟨_, rfl, .ren rfl rfl⟩, rfl⟩ trivial
theorem c_law_Effects (v : Value) (xs : List Int) (sv : Sli W0 [] 1 enB (.lit v) xs) (hv : ∀ x ∈ xs, 0 ≤ x ∧ x < 256) (mv : xs.length ≤ maxLen) (K : Cont) (h0 : K (Bo true) []) : ACall Try.prog W0 5 [.lit v] [] K := by
  by_cases hz : 65536 < (xs.length : Int)
  · refine by5 (Nat.le_of_ble_eq_true rfl) ?_
    repeat' ((conv => whnf); first | (refine Exists.intro ([] : List Nat) ?_) | (refine And.intro rfl ?_) | (refine And.intro (by decide +kernel) ?_) | (refine And.intro trivial ?_) | (refine c_rBig (hs := sv) (h0 := ?_) ..; rw [decide_eq_true hz]) | (refine Exists.intro _ (And.intro rfl (And.intro rfl (And.intro (Nat.le_of_ble_eq_true rfl) ?_)))) | (refine Exists.intro _ (And.intro rfl (And.intro rfl (And.intro rfl (And.intro (Nat.le_of_ble_eq_true rfl) ?_))))) | (refine And.intro (Exists.intro _ (And.intro rfl rfl)) ?_) | (exact fun hW => absurd hW (by decide +kernel)) | (intro hW; (try simp only [Bool.not_true, Bool.not_false, Bool.not_eq_true', Bool.not_eq_false', decide_eq_true_eq, decide_eq_false_iff_not, reduceCtorEq, Bool.true_eq_false, Bool.false_eq_true, mk_size, List.size_toArray, ByteArray.size_append, ByteArray.size_extract, List.length_cons, List.length_nil, ba_get, ba_empty, Int.toNat_natCast] at hW)) | (refine And.intro (?_ : _ → _) (?_ : _ → _)) | (refine FinR.drop 0 (Nat.zero_le _) (Closed.zero _) rfl ?_) | (refine FinR.keep ?_) | (refine And.intro (det3_agg rfl) ?_) | (refine fL_mk ?_) | (refine And.intro (by (try simp only [mk_size, List.size_toArray, ByteArray.size_append, ByteArray.size_extract, List.length_cons, List.length_nil]); omega) ?_) | (refine And.intro (by (try simp only [mk_size, List.size_toArray, ByteArray.size_append, ByteArray.size_extract, List.length_cons, List.length_nil, wrap64_eq]); omega) ?_) | fail)
    all_goals first | exact h0 | (exfalso; simp_all; done)
  · exact c_law_Effects1 v xs ⟨sv, hv, by omega⟩ hz K h0
end Go.Proofs.Ytkcbhdjhbnnlgaa
end
