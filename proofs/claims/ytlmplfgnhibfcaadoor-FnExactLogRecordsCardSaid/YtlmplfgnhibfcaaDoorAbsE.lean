/- The abstract logic, part E: arithmetic, comparisons, conversions. -/
import Derived.Test.YtlmplfgnhibfcaaDoorAbsD
set_option linter.unusedVariables false
set_option linter.unusedSimpArgs false
namespace Go.Proofs.YtlmplfgnhibfcaaDoor.Abs
open Go Go.RowKit

section
variable {t' : TypeId} {P : Program} {W0 : World} {ι : Loc} {σ : List Blk} {w : World} {K : Cont}

/-- the bits of two numbers, put together -/
def bAnd (k : IntKind) (a b : Int) : Int := k.wrap ((BitVec.ofInt k.bits a &&& BitVec.ofInt k.bits b).toNat : Nat)
def bOr (k : IntKind) (a b : Int) : Int := k.wrap ((BitVec.ofInt k.bits a ||| BitVec.ofInt k.bits b).toNat : Nat)
def bXor (k : IntKind) (a b : Int) : Int := k.wrap ((BitVec.ofInt k.bits a ^^^ BitVec.ofInt k.bits b).toNat : Nat)
def bAndNot (k : IntKind) (a b : Int) : Int := k.wrap ((BitVec.ofInt k.bits a &&& ~~~ BitVec.ofInt k.bits b).toNat : Nat)
def shL (k : IntKind) (a b : Int) : Int := k.wrap (a * 2 ^ (min b.toNat k.bits))
def shR (k : IntKind) (a b : Int) : Int := a.fdiv (2 ^ (min b.toNat k.bits))

/-- a binary operation on values that lead to no own block -/
def binL (P : Program) (op : BinOp) (t : TypeId) (u v : Value) (K : Value → Prop) : Prop :=
  match u, v with
  | .int k a, .int k' b => match op with
    | .shl => 0 ≤ b ∧ K (.int k (shL k a b))
    | .shr => 0 ≤ b ∧ K (.int k (shR k a b))
    | .add => k = k' ∧ K (.int k (k.wrap (a + b)))
    | .sub => k = k' ∧ K (.int k (k.wrap (a - b)))
    | .mul => k = k' ∧ K (.int k (k.wrap (a * b)))
    | .quo => k = k' ∧ b ≠ 0 ∧ K (.int k (k.wrap (a.tdiv b)))
    | .rem => k = k' ∧ b ≠ 0 ∧ K (.int k (a.tmod b))
    | .and => k = k' ∧ K (.int k (bAnd k a b))
    | .or => k = k' ∧ K (.int k (bOr k a b))
    | .xor => k = k' ∧ K (.int k (bXor k a b))
    | .andNot => k = k' ∧ K (.int k (bAndNot k a b))
    | .eql => k = k' ∧ K (.bool (decide (a = b)))
    | .neq => k = k' ∧ K (.bool (!decide (a = b)))
    | .lss => k = k' ∧ K (.bool (decide (a < b)))
    | .leq => k = k' ∧ K (.bool (decide (a ≤ b)))
    | .gtr => k = k' ∧ K (.bool (decide (b < a)))
    | .geq => k = k' ∧ K (.bool (decide (b ≤ a)))
  | .string a, .string b => match op with
    | .add => ((a.size + b.size : Nat) : Int) ≤ 9223372036854775807 ∧ K (.string (a ++ b))
    | .eql => K (.bool (a.toList == b.toList))
    | .neq => K (.bool (!(a.toList == b.toList)))
    | .lss => K (.bool (Op.bytesLess a.toList b.toList))
    | .geq => K (.bool (!Op.bytesLess a.toList b.toList))
    | _ => False
  | .bool a, .bool b => match op with
    | .eql => P.underlying t = some .bool ∧ K (.bool (a == b))
    | .neq => P.underlying t = some .bool ∧ K (.bool (!(a == b)))
    | _ => False
  | .slice a _ _, .slice none 0 0 => match op with
    | .eql => (sliceP P t).isSome = true ∧ K (.bool a.isNone)
    | .neq => (sliceP P t).isSome = true ∧ K (.bool (!a.isNone))
    | _ => False
  | .nilIface, .nilIface => match op with
    | .eql => (∃ ms, P.underlying t = some (.interface ms)) ∧ K (.bool true)
    | .neq => (∃ ms, P.underlying t = some (.interface ms)) ∧ K (.bool false)
    | _ => False
  | .iface _ _, .nilIface => match op with
    | .eql => (∃ ms, P.underlying t = some (.interface ms)) ∧ K (.bool false)
    | .neq => (∃ ms, P.underlying t = some (.interface ms)) ∧ K (.bool true)
    | _ => False
  | _, _ => False

theorem run_shift_shl {k k' : IntKind} {a b : Int} (h : 0 ≤ b) (w : World) : (binOp .shl t' (.int k a) (.int k' b)).run P w = .ok (.int k (shL k a b)) w := by
  have h0 : ¬ b < 0 := by omega
  simp only [binOp, Op.shift, h0, if_false, Sem.run_pure, shL]
theorem run_shift_shr {k k' : IntKind} {a b : Int} (h : 0 ≤ b) (w : World) : (binOp .shr t' (.int k a) (.int k' b)).run P w = .ok (.int k (shR k a b)) w := by
  have h0 : ¬ b < 0 := by omega
  simp only [binOp, Op.shift, h0, if_false, Sem.run_pure, shR]
theorem run_equalIn_iface2 {t : TypeId} {ms : _} (d : Nat) (hu : P.underlying t = some (.interface ms)) (w : World) : (Op.equalIn (d + 1) t .nilIface .nilIface).run P w = .ok true w := by
  simp [Op.equalIn, run_underlying hu]
theorem run_equalIn_iface1 {t : TypeId} {ms : _} {u : TypeId} {x : Value} (d : Nat) (hu : P.underlying t = some (.interface ms)) (w : World) : (Op.equalIn (d + 1) t (.iface u x) .nilIface).run P w = .ok false w := by
  simp [Op.equalIn, run_underlying hu]
theorem run_equal_iface2 {t : TypeId} {ms : _} (hu : P.underlying t = some (.interface ms)) (w : World) : (Op.equal t .nilIface .nilIface).run P w = .ok true w := run_equalIn_iface2 9999 hu w
theorem run_equal_iface1 {t : TypeId} {ms : _} {u : TypeId} {x : Value} (hu : P.underlying t = some (.interface ms)) (w : World) : (Op.equal t (.iface u x) .nilIface).run P w = .ok false w := run_equalIn_iface1 9999 hu w

theorem run_binL {op : BinOp} {t : TypeId} {u v : Value} {x y : Operand} {Q : Value → Prop} (h : binL P op t u v Q) (hn : u = .nilIface → v = .nilIface → ∃ c, y = .const c) (w : World) :
    ∃ r, (do eqGuard op t x y u v; binOp op t u v : Sem Value).run P w = .ok r w ∧ Q r := by
  unfold binL at h
  split at h
  · rename_i k a k' b
    split at h
    all_goals first
      | (obtain ⟨h0, hq⟩ := h; refine ⟨_, ?_, hq⟩; simp only [eqGuard_at_int, Sem.run_bind, Sem.run_pure, Result.andThen_ok, run_shift_shl h0]; done)
      | (obtain ⟨h0, hq⟩ := h; refine ⟨_, ?_, hq⟩; simp only [eqGuard_at_int, Sem.run_bind, Sem.run_pure, Result.andThen_ok, run_shift_shr h0]; done)
      | (obtain ⟨rfl, h0, hq⟩ := h; refine ⟨_, ?_, hq⟩; simp [eqGuard_at_int, binOp, Op.intDiv, h0]; done)
      | (obtain ⟨rfl, hq⟩ := h; refine ⟨_, ?_, hq⟩; simp [eqGuard_at_int, binOp, Op.intArith, Op.intBits, Op.intCmp, bAnd, bOr, bXor, bAndNot]; done)
      | (obtain ⟨rfl, hq⟩ := h; refine ⟨_, ?_, hq⟩; simp [eqGuard_at_int, binOp, Op.intCmp]; rfl)
  · rename_i a b
    split at h
    · obtain ⟨h0, hq⟩ := h
      refine ⟨_, ?_, hq⟩
      have h1 : ¬ (9223372036854775807 < ((a.size + b.size : Nat) : Int)) := by omega
      have h2 : IntKind.i64.max = 9223372036854775807 := rfl
      simp only [eqGuard_at_string, binOp, Op.stringOp, h2, gt_iff_lt, h1, if_false, Sem.run_bind, Sem.run_pure, Result.andThen_ok]
    all_goals first
      | exact h.elim
      | (refine ⟨_, ?_, h⟩; simp [eqGuard_at_string, binOp, Op.stringOp])
  · rename_i a b
    split at h
    · obtain ⟨h0, hq⟩ := h
      refine ⟨_, ?_, hq⟩
      simp [eqGuard_at_bool, binOp, run_equal_bool w t a b h0]
    · obtain ⟨h0, hq⟩ := h
      refine ⟨_, ?_, hq⟩
      simp [eqGuard_at_bool, binOp, run_equal_bool w t a b h0]
    · exact h.elim
  · rename_i a n c
    split at h
    · obtain ⟨h0, hq⟩ := h
      obtain ⟨⟨e, s, b⟩, hs⟩ := Option.isSome_iff_exists.1 h0
      obtain ⟨i, hu, _⟩ := sliceP_inv hs
      refine ⟨_, ?_, hq⟩
      simp [eqGuard_at_slice, binOp, run_equal_slice_nil w t e a n c hu]
    · obtain ⟨h0, hq⟩ := h
      obtain ⟨⟨e, s, b⟩, hs⟩ := Option.isSome_iff_exists.1 h0
      obtain ⟨i, hu, _⟩ := sliceP_inv hs
      refine ⟨_, ?_, hq⟩
      simp [eqGuard_at_slice, binOp, run_equal_slice_nil w t e a n c hu]
    · exact h.elim
  · obtain ⟨c, rfl⟩ := hn rfl rfl
    split at h
    · obtain ⟨⟨ms, hu⟩, hq⟩ := h
      refine ⟨_, ?_, hq⟩
      simp [eqGuard_nil_constR, binOp, run_equal_iface2 hu]
    · obtain ⟨⟨ms, hu⟩, hq⟩ := h
      refine ⟨_, ?_, hq⟩
      simp [eqGuard_nil_constR, binOp, run_equal_iface2 hu]
    · exact h.elim
  · split at h
    · obtain ⟨⟨ms, hu⟩, hq⟩ := h
      refine ⟨_, ?_, hq⟩
      simp [eqGuard_at_iface, binOp, run_equal_iface1 hu]
    · obtain ⟨⟨ms, hu⟩, hq⟩ := h
      refine ⟨_, ?_, hq⟩
      simp [eqGuard_at_iface, binOp, run_equal_iface1 hu]
    · exact h.elim
  · exact h.elim

end
end Go.Proofs.YtlmplfgnhibfcaaDoor.Abs
