/- The abstract logic, part F: structs and arrays compared; the operations of one operand. -/
import Derived.Test.YtlmplfgnhibfcaaDoorAbsE
set_option linter.unusedVariables false
set_option linter.unusedSimpArgs false
namespace Go.Proofs.YtlmplfgnhibfcaaDoor.Abs
open Go Go.RowKit

/-- what a cell may be, where values are compared -/
inductive CK where
  | int | bool | str
def eqC : List CK → List Value → List Value → Option Bool
  | [], [], [] => some true
  | .int :: ks, .int k a :: xs, .int k' b :: ys => if k = k' then (eqC ks xs ys).map (decide (a = b) && ·) else none
  | .bool :: ks, .bool a :: xs, .bool b :: ys => (eqC ks xs ys).map ((a == b) && ·)
  | .str :: ks, .string a :: xs, .string b :: ys => (eqC ks xs ys).map ((a.toList == b.toList) && ·)
  | _, _, _ => none

def flatF (P : Program) (rec : TypeId → Option (List CK)) : Nat → List Field → Option (List CK)
  | _, [] => some []
  | off, f :: fs => if f.name = "_" ∨ f.offset ≠ off then none else
    match rec f.type with
    | some ks => if szP P f.type = some ks.length ∧ (aggP P f.type).isSome = true then (flatF P rec (off + ks.length) fs).map (ks ++ ·) else none
    | none => none
/-- the cells of a type that can be compared cell by cell -/
def flatP (P : Program) : Nat → TypeId → Option (List CK)
  | 0, _ => none
  | d + 1, t => match P.underlying t with
    | some (.int _) => some [.int]
    | some .bool => some [.bool]
    | some .string => some [.str]
    | some (.struct fs) => if P.stoodInHeld t then none else flatF P (flatP P d) 0 fs.toList
    | some (.array n e) => match flatP P d e with
      | some ks => if szP P e = some ks.length ∧ (aggP P e).isSome = true then some (List.replicate n ks).flatten else none
      | none => none
    | _ => none

section
variable {P : Program}
theorem eqC_len : ∀ (ks : List CK) (xs ys : List Value) (b : Bool), eqC ks xs ys = some b → xs.length = ks.length ∧ ys.length = ks.length
  | [], xs, ys, b, h => by
    cases xs <;> cases ys <;> simp [eqC] at h ⊢
  | k :: ks, xs, ys, b, h => by
    cases k with
    | int =>
      match xs, ys, h with
      | .int ka a :: xs, .int kb c :: ys, h =>
        simp only [eqC] at h
        split at h
        · obtain ⟨r, hr, _⟩ := Option.map_eq_some_iff.1 h
          have := eqC_len _ _ _ _ hr
          simp [this]
        · cases h
    | bool =>
      match xs, ys, h with
      | .bool a :: xs, .bool c :: ys, h =>
        simp only [eqC] at h
        obtain ⟨r, hr, _⟩ := Option.map_eq_some_iff.1 h
        have := eqC_len _ _ _ _ hr
        simp [this]
    | str =>
      match xs, ys, h with
      | .string a :: xs, .string c :: ys, h =>
        simp only [eqC] at h
        obtain ⟨r, hr, _⟩ := Option.map_eq_some_iff.1 h
        have := eqC_len _ _ _ _ hr
        simp [this]

theorem eqC_append : ∀ (k1 k2 : List CK) (xs ys : List Value) (b : Bool), eqC (k1 ++ k2) xs ys = some b →
    ∃ b1 b2, eqC k1 (xs.take k1.length) (ys.take k1.length) = some b1 ∧ eqC k2 (xs.drop k1.length) (ys.drop k1.length) = some b2 ∧ b = (b1 && b2)
  | [], k2, xs, ys, b, h => ⟨true, b, by simp [eqC], by simpa using h, by simp⟩
  | k :: k1, k2, xs, ys, b, h => by
    cases k with
    | int =>
      match xs, ys, h with
      | .int ka a :: xs, .int kb c :: ys, h =>
        simp only [List.cons_append, eqC] at h
        split at h
        · rename_i hk
          obtain ⟨r, hr, rfl⟩ := Option.map_eq_some_iff.1 h
          obtain ⟨b1, b2, h1, h2, rfl⟩ := eqC_append k1 k2 xs ys r hr
          exact ⟨decide (a = c) && b1, b2, by simp only [List.length_cons, List.take_succ_cons, eqC, hk, if_true, h1, Option.map_some], by simpa using h2, (Bool.and_assoc _ _ _).symm⟩
        · cases h
    | bool =>
      match xs, ys, h with
      | .bool a :: xs, .bool c :: ys, h =>
        simp only [List.cons_append, eqC] at h
        obtain ⟨r, hr, rfl⟩ := Option.map_eq_some_iff.1 h
        obtain ⟨b1, b2, h1, h2, rfl⟩ := eqC_append k1 k2 xs ys r hr
        exact ⟨(a == c) && b1, b2, by simp only [List.length_cons, List.take_succ_cons, eqC, h1, Option.map_some], by simpa using h2, (Bool.and_assoc _ _ _).symm⟩
    | str =>
      match xs, ys, h with
      | .string a :: xs, .string c :: ys, h =>
        simp only [List.cons_append, eqC] at h
        obtain ⟨r, hr, rfl⟩ := Option.map_eq_some_iff.1 h
        obtain ⟨b1, b2, h1, h2, rfl⟩ := eqC_append k1 k2 xs ys r hr
        exact ⟨(a.toList == c.toList) && b1, b2, by simp only [List.length_cons, List.take_succ_cons, eqC, h1, Option.map_some], by simpa using h2, (Bool.and_assoc _ _ _).symm⟩

/-- a value of a type, out of its cells -/
def mkV (P : Program) (t : TypeId) (xs : List Value) : Value := if aggP P t = some true then .agg xs.toArray else xs.headD undef

theorem run_part_cells {t : TypeId} {n off : Nat} {xs : List Value} (hs : szP P t = some n) (hg : (aggP P t).isSome = true) (hn : ((xs.drop off).take n).length = n) (h1 : aggP P t = some false → n = 1) (w : World) :
    (part t xs.toArray off).run P w = .ok (mkV P t ((xs.drop off).take n)) w := by
  obtain ⟨g, hg'⟩ := Option.isSome_iff_exists.1 hg
  unfold mkV
  cases g with
  | true =>
    rw [if_pos hg']
    simp only [part, Sem.run_bind, run_isAgg hg', Result.andThen_ok, if_true, run_sizeOf hs, Sem.run_pure]
    congr 2
    apply Array.ext'
    simp [List.take_drop, Nat.add_sub_cancel_left]
  | false =>
    obtain rfl := h1 hg'
    rw [if_neg (by rw [hg']; simp)]
    simp only [part, Sem.run_bind, run_isAgg hg', Result.andThen_ok, Bool.false_eq_true, if_false]
    have hlt : off < xs.length := by simp at hn; omega
    have hh : (xs.drop off).take 1 = [xs[off]] := by
      rw [List.drop_eq_getElem_cons hlt]; rfl
    rw [hh]
    simp [hlt]

theorem flat_one {d : Nat} {t : TypeId} {ks : List CK} (h : flatP P d t = some ks) (hg : aggP P t = some false) : ks.length = 1 := by
  cases d with
  | zero => simp [flatP] at h
  | succ d =>
    unfold flatP at h
    unfold aggP at hg
    cases hu : P.underlying t with
    | none => simp [hu] at h
    | some D =>
      cases D <;> simp [hu, isAggD] at h hg <;> (subst h; rfl)

theorem run_equalIn_flat : ∀ (d : Nat) (t : TypeId) (ks : List CK), flatP P d t = some ks → ∀ (xs ys : List Value) (b : Bool) (w : World) (d' : Nat), d ≤ d' → eqC ks xs ys = some b →
    (Op.equalIn d' t (mkV P t xs) (mkV P t ys)).run P w = .ok b w
  | 0, t, ks, h, _, _, _, _, _, _, _ => by simp [flatP] at h
  | d + 1, t, ks, h, xs, ys, b, w, d', hd, hb => by
    obtain ⟨d', rfl⟩ : ∃ m, d' = m + 1 := ⟨d' - 1, by omega⟩
    have hd' : d ≤ d' := by omega
    unfold flatP at h
    cases hu : P.underlying t with
    | none => simp [hu] at h
    | some D =>
      simp only [hu] at h
      cases D <;> try (simp at h; done)
      case bool =>
        cases h
        have hg : aggP P t ≠ some true := by simp [aggP, hu, isAggD]
        have hl := eqC_len _ _ _ _ hb
        match xs, ys, hb with
        | [.bool a], [.bool c], hb =>
          simp only [eqC, Option.map_some, Option.some.injEq, Bool.and_true] at hb
          subst hb
          simp only [mkV, hg, if_false, List.headD_cons]
          exact run_equalIn_bool w d' t a c hu
        | .bool a :: _ :: _, _, _ => simp at hl
        | [.bool a], .bool c :: _ :: _, _ => simp at hl
      case int k =>
        cases h
        have hg : aggP P t ≠ some true := by simp [aggP, hu, isAggD]
        have hl := eqC_len _ _ _ _ hb
        match xs, ys, hb with
        | [.int ka a], [.int kb c], hb =>
          simp only [eqC] at hb
          split at hb
          · rename_i hk
            subst hk
            simp only [Option.map_some, Option.some.injEq, Bool.and_true] at hb
            subst hb
            simp only [mkV, hg, if_false, List.headD_cons]
            have := run_equalIn_int (P := P) w d' t ka k a c hu
            rw [this]; congr 1
          · cases hb
        | .int _ a :: _ :: _, _, _ => simp at hl
        | [.int _ a], .int _ c :: _ :: _, _ => simp at hl
      case string =>
        cases h
        have hg : aggP P t ≠ some true := by simp [aggP, hu, isAggD]
        have hl := eqC_len _ _ _ _ hb
        match xs, ys, hb with
        | [.string a], [.string c], hb =>
          simp only [eqC, Option.map_some, Option.some.injEq, Bool.and_true] at hb
          subst hb
          simp only [mkV, hg, if_false, List.headD_cons]
          exact run_equalIn_string (P := P) w d' t a c hu
        | .string a :: _ :: _, _, _ => simp at hl
        | [.string a], .string c :: _ :: _, _ => simp at hl
      case struct fs =>
        have hg : aggP P t = some true := by simp [aggP, hu, isAggD]
        dsimp only at h
        split at h
        · cases h
        · rename_i hst
          have hfo : P.fieldsOf t = fs := by simp [Program.fieldsOf, hu]
          simp only [mkV, hg, if_true]
          rw [run_equalIn_struct (P := P) w d' t xs.toArray ys.toArray (by rw [hfo]; exact hu) (by simpa using hst), hfo]
          have key : ∀ (L : List Field) (off : Nat) (ks : List CK) (b : Bool), flatF P (flatP P d) off L = some ks → eqC ks (xs.drop off) (ys.drop off) = some b → (Op.eqFields d' xs.toArray ys.toArray L).run P w = .ok b w := by
            intro L
            induction L with
            | nil =>
              intro off ks b h1 h2
              simp only [flatF, Option.some.injEq] at h1; subst h1
              cases hxs : xs.drop off <;> cases hys : ys.drop off <;> simp [eqC, hxs, hys] at h2
              subst h2
              simp [Op.eqFields]
            | cons f L ih =>
              intro off ks b h1 h2
              simp only [flatF] at h1
              split at h1
              · cases h1
              · rename_i hname
                have hname' : f.name ≠ "_" ∧ f.offset = off := by
                  constructor
                  · exact fun e => hname (.inl e)
                  · exact Decidable.byContradiction fun e => hname (.inr e)
                cases hrec : flatP P d f.type with
                | none => simp [hrec] at h1
                | some k1 =>
                  simp only [hrec] at h1
                  split at h1
                  · rename_i hsz
                    obtain ⟨k2, hk2, rfl⟩ := Option.map_eq_some_iff.1 h1
                    obtain ⟨b1, b2, e1, e2, rfl⟩ := eqC_append _ _ _ _ _ h2
                    have hl := eqC_len _ _ _ _ e1
                    have p1 := run_part_cells (P := P) (xs := xs) hsz.1 hsz.2 hl.1 (fun h => flat_one hrec h) w
                    have p2 := run_part_cells (P := P) (xs := ys) hsz.1 hsz.2 hl.2 (fun h => flat_one hrec h) w
                    have p3 := run_equalIn_flat d f.type k1 hrec _ _ b1 w d' hd' e1
                    rw [List.drop_drop, List.drop_drop] at e2
                    have p4 := ih (off + k1.length) k2 b2 hk2 e2
                    simp only [Op.eqFields, hname'.1, ne_eq, not_false_eq_true, if_true, hname'.2, Sem.run_bind, p1, p2, p3, Result.andThen_ok]
                    cases b1 <;> simp [p4]
                  · cases h1
          exact key fs.toList 0 ks b h (by simpa using hb)
      case array n e =>
        have hg : aggP P t = some true := by simp [aggP, hu, isAggD]
        dsimp only at h
        cases hrec : flatP P d e with
        | none => simp [hrec] at h
        | some k1 =>
          simp only [hrec] at h
          split at h
          · rename_i hsz
            cases h
            simp only [mkV, hg, if_true, Op.equalIn, Sem.run_bind, run_underlying hu, Result.andThen_ok, run_sizeOf hsz.1]
            simp only [Std.Legacy.Range.forIn_eq_forIn_range', Std.Legacy.Range.size, Nat.sub_zero, Nat.add_one_sub_one, Nat.div_one]
            have key : ∀ (m i : Nat) (b : Bool), eqC (List.replicate m k1).flatten (xs.drop (i * k1.length)) (ys.drop (i * k1.length)) = some b →
                ((forIn (List.range' i m) ((none, ()) : Option Bool × Unit) fun i _ => do
                  let a ← part e xs.toArray (i * k1.length)
                  let c ← part e ys.toArray (i * k1.length)
                  let r ← Op.equalIn d' e a c
                  if (!r) = true then pure (ForInStep.done (some false, ())) else pure (ForInStep.yield (none, ())) : Sem (Option Bool × Unit))).run P w = .ok (if b then (none, ()) else (some false, ())) w := by
              intro m
              induction m with
              | zero =>
                intro i b hb
                cases hxs : xs.drop (i * k1.length) <;> cases hys : ys.drop (i * k1.length) <;> simp [eqC, hxs, hys] at hb
                subst hb
                simp
              | succ m ih =>
                intro i b hb
                rw [List.replicate_succ, List.flatten_cons] at hb
                obtain ⟨b1, b2, e1, e2, rfl⟩ := eqC_append _ _ _ _ _ hb
                have hl := eqC_len _ _ _ _ e1
                have p1 := run_part_cells (P := P) (xs := xs) hsz.1 hsz.2 hl.1 (fun h => flat_one hrec h) w
                have p2 := run_part_cells (P := P) (xs := ys) hsz.1 hsz.2 hl.2 (fun h => flat_one hrec h) w
                have p3 := run_equalIn_flat d e k1 hrec _ _ b1 w d' hd' e1
                rw [List.drop_drop, List.drop_drop, ← Nat.succ_mul] at e2
                have p4 := ih (i + 1) b2 e2
                simp only [List.range'_succ, List.forIn_cons, Sem.run_bind, p1, p2, p3, Result.andThen_ok]
                cases b1 with
                | false => simp
                | true => simp only [Bool.not_true, Bool.false_eq_true, if_false, Sem.run_pure, Result.andThen_ok, Bool.true_and]; exact p4
            have hk := key n 0 b (by simpa using hb)
            rw [hk]
            cases b <;> simp
          · cases h


/-! ### comparing structs and arrays -/
def litsA : List AV → Option (List Value)
  | [] => some []
  | .lit v :: l => (litsA l).map (v :: ·)
  | _ :: _ => none
theorem litsA_rel {ι : Loc} {σ : List Blk} : ∀ {l : List AV} {vs ws : List Value}, litsA l = some vs → Rels (crel ι σ) l ws → ws = vs
  | [], vs, ws, h, hr => by simp only [litsA, Option.some.injEq] at h; subst h; exact hr.nil_inv
  | a :: l, vs, ws, h, hr => by
    obtain ⟨b, m, rfl, h1, h2⟩ := hr.uncons
    cases a <;> simp only [litsA] at h <;> try (cases h; done)
    obtain ⟨vs', hv, rfl⟩ := Option.map_eq_some_iff.1 h
    rw [litsA_rel hv h2]
    have e : b = _ := h1.1
    rw [e]

def binW (P : Program) (op : BinOp) (t : TypeId) (y : Operand) (u v : AV) (σ : List Blk) (K : Cont) : Prop :=
  match u, v with
  | .lit a, .lit b => (a = .nilIface → b = .nilIface → ∃ c, y = .const c) ∧ binL P op t a b (fun r => K (.lit r) σ)
  | .agg xs, .agg ys => aggP P t = some true ∧ P.eqGuardType P.depth t = false ∧ match flatP P 8 t, litsA xs, litsA ys with
    | some ks, some vs, some us => match eqC ks vs us with
      | some b => match op with
        | .eql => K (.lit (.bool b)) σ
        | .neq => K (.lit (.bool (!b))) σ
        | _ => False
      | none => False
    | _, _, _ => False
  | .sl b ver _ _ _, .lit (.slice none 0 0) => (∃ B, σ[b]? = some B ∧ B.ver = ver) ∧ (sliceP P t).isSome = true ∧ match op with
    | .eql => K (.lit (.bool false)) σ
    | .neq => K (.lit (.bool true)) σ
    | _ => False
  | .ptr b ver _, .lit (.pointer none) => (∃ B, σ[b]? = some B ∧ B.ver = ver) ∧ (P.underlying t = some (.pointer (P.pointee t))) ∧ match op with
    | .eql => K (.lit (.bool false)) σ
    | .neq => K (.lit (.bool true)) σ
    | _ => False
  | _, _ => False

theorem binW_sound {W0 : World} {ι : Loc} {σ : List Blk} {w : World} {K : Cont} {op : BinOp} {t : TypeId} {x y : Operand} {u v : AV} {a b : Value} (h : binW P op t y u v σ K) (hh : HRel W0 ι σ w) (hu : rel3 ι σ u a) (hv : rel3 ι σ v b) :
    Yields0 P ι σ w K (do eqGuard op t x y a b; binOp op t a b) := by
  unfold binW at h
  split at h
  · rename_i a' b'
    have e0 : a = a' := hu
    have e1 : b = b' := hv
    subst e0; subst e1
    obtain ⟨r, hr, hk⟩ := run_binL (P := P) (x := x) h.2 h.1 w
    exact Yields0.lit hr hk
  · rename_i xs ys
    obtain ⟨hg, heg, h⟩ := h
    split at h
    · rename_i ks vs us hks hvs hus
      split at h
      · rename_i r hr
        obtain ⟨l1, rfl, r1⟩ := hu
        obtain ⟨l2, rfl, r2⟩ := hv
        rw [litsA_rel hvs r1, litsA_rel hus r2]
        have he := run_equalIn_flat (P := P) 8 t ks hks vs us r w 10000 (by omega) hr
        simp only [mkV, hg, if_true] at he
        split at h
        · refine Yields0.lit ?_ h
          simp only [Sem.run_bind, run_eqGuard_agg (P := P) w _ t x y _ _ heg, Result.andThen_ok, run_eql_struct, he]
        · refine Yields0.lit ?_ h
          simp only [Sem.run_bind, run_eqGuard_agg (P := P) w _ t x y _ _ heg, Result.andThen_ok, run_neq_struct, he]
        · exact h.elim
      · exact h.elim
    · exact h.elim
  · rename_i b0 ver off len cap
    have e1 : b = .slice none 0 0 := hv
    subst e1
    obtain ⟨⟨B, hB, hver⟩, hs, h⟩ := h
    obtain ⟨c, tt, hi, rfl, _⟩ := slRel_now hu hB hver
    obtain ⟨⟨e, s, by_⟩, hs'⟩ := Option.isSome_iff_exists.1 hs
    obtain ⟨i, hut, _⟩ := sliceP_inv hs'
    split at h
    · refine Yields0.lit ?_ h
      simp [eqGuard_at_slice, binOp, run_equal_slice_nil w t e _ len cap hut]
    · refine Yields0.lit ?_ h
      simp [eqGuard_at_slice, binOp, run_equal_slice_nil w t e _ len cap hut]
    · exact h.elim
  · rename_i b0 ver off
    have e1 : b = .pointer none := hv
    subst e1
    obtain ⟨⟨B, hB, hver⟩, hs, h⟩ := h
    obtain ⟨c, tt, hi, rfl⟩ := ptrRel_now hu hB hver
    split at h
    · refine Yields0.lit ?_ h
      simp [eqGuard_at_pointer, binOp, run_equal_pointer_nil w t _ hs]
    · refine Yields0.lit ?_ h
      simp [eqGuard_at_pointer, binOp, run_equal_pointer_nil w t _ hs]
    · exact h.elim
  · exact h.elim

end
end Go.Proofs.YtlmplfgnhibfcaaDoor.Abs
