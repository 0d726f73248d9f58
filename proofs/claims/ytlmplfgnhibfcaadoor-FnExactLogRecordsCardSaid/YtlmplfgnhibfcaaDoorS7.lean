/- Contracts: the records that a text begins with, by the program. -/
import Derived.Test.YtlmplfgnhibfcaaDoorS6
set_option linter.unusedVariables false
set_option linter.unusedSimpArgs false
set_option maxRecDepth 100000
set_option maxHeartbeats 4000000
namespace Go.Proofs.YtlmplfgnhibfcaaDoor
open Go Go.RowKit Go.Proofs.YtlmplfgnhibfcaaDoor.Abs
variable {W0 : World} {σ : List Blk}
def aftB (c : UInt8) (s : ByteArray) : ByteArray := if (tl s).any (· == c) then bs (aft c (tl s)) else ⟨#[]⟩
theorem d_CutU (s : ByteArray) (c : UInt8) (hs : s.size < 4611686018427387904) (K : Cont) (h0 : K (.tup [St (bs (bef c (tl s))), St (aftB c s), Bo ((tl s).any (· == c))]) σ) : ACall Tryd.prog W0 29 [St s, St ⟨#[c]⟩] σ K := by
  cases h : (tl s).any (· == c) with
  | true =>
    refine d_sCutT s c h hs K ?_
    rw [h] at h0
    have e : aftB c s = bs (aft c (tl s)) := by unfold aftB; rw [if_pos h]
    rw [e] at h0; exact h0
  | false =>
    refine d_sCutF s c h K ?_
    rw [h] at h0
    have e : aftB c s = ⟨#[]⟩ := by unfold aftB; rw [h]; rfl
    have e2 : bef c (tl s) = tl s := by
      rcases bef_cases c (tl s) with ⟨_, h2⟩ | ⟨h1, _⟩
      · exact h2
      · rw [h] at h1; cases h1
    rw [e, e2, bs_tl] at h0; exact h0
theorem aftB_size (c : UInt8) (s : ByteArray) : (aftB c s).size ≤ s.size := by
  unfold aftB
  split
  · rw [← tl_len, tl_bs, aft, List.length_drop, tl_len]; omega
  · exact Nat.zero_le _
theorem d_HasPrefix (s p : ByteArray) (K : Cont) (h0 : K (Bo (Lib.hasPrefix (tl s) (tl p))) σ) : ACall Tryd.prog W0 32 [St s, St p] σ K :=
  ACall.ofCalls1 (vs := [.string s, .string p]) (by kernel_rfl) (fun w _ => (Tryd.strings_HasPrefix s p w).mono fun e w' ⟨h1, h2⟩ => by subst h2; exact ⟨h1, Below.refl _ _⟩) h0
theorem d_AppendU (s : ByteArray) (hs : s.size < 4611686018427387904) (ht : TabP W0) (K : Cont) (h1 : s.size ≤ 4000 ∧ (tl s).any (· == 35) = false ∧ (sealB s).size ≤ 4000 → K (.tup [St (sealB s), Bo true]) σ) (h2 : ¬ (s.size ≤ 4000 ∧ (tl s).any (· == 35) = false ∧ (sealB s).size ≤ 4000) → K (.tup [St ⟨#[]⟩, Bo false]) σ) : ACall Tryd.prog W0 37 [St s] σ K := by
  by_cases h : s.size ≤ 4000 ∧ (tl s).any (· == 35) = false ∧ (sealB s).size ≤ 4000
  · exact d_AppendChecksumT s h.1 h.2.1 h.2.2 ht K (h1 h)
  · exact d_AppendChecksumF s h hs ht K (h2 h)
theorem d_EncodeU (k : Nat) (c r : ByteArray) (hc : c.size < 4611686018427387904) (hr : r.size < 4611686018427387904) (ht : TabP W0) (K : Cont) (h1 : k < 60 ∧ recB c r = true → K (.tup [St (lineB k c r), Bo true]) σ) (h2 : ¬ (k < 60 ∧ recB c r = true) → K (.tup [St ⟨#[]⟩, Bo false]) σ) : ACall Tryd.prog W0 31 [I k, Rc c r] σ K := by
  by_cases h : k < 60 ∧ recB c r = true
  · exact d_EncodeT k c r h.1 h.2 ht K (h1 h)
  · exact d_EncodeF k c r (fun h' => h ⟨by omega, h'.2.2⟩) hc hr ht K (h2 h)
/-- a sealed text -/
def sealedB (t s : ByteArray) : Prop := (t.size ≤ 4000 ∧ (tl t).any (· == 35) = false ∧ (sealB t).size ≤ 4000) ∧ sealB t = s
theorem c_VerifyChecksum (s : ByteArray) (hs : s.size < 1000000) (ht : TabP W0) (K : Cont) (h1 : sealedB (bs (bef 35 (tl s))) s → K (.tup [St (bs (bef 35 (tl s))), Bo true]) []) (h2 : ¬ sealedB (bs (bef 35 (tl s))) s → K (.tup [St ⟨#[]⟩, Bo false]) []) : ACall Tryd.prog W0 30 [St s] [] K := by
  refine by30 (Nat.le_of_ble_eq_true rfl) ?_
  have tls := tl_len s
  have hb := bef_len_le 35 (tl s)
  have hb' : (bs (bef 35 (tl s))).size = (bef 35 (tl s)).length := by simp only [mk_size, List.size_toArray]
  repeat' ((conv => whnf); first
    | (refine And.intro rfl ?_)
    | (refine And.intro (by decide +kernel) ?_)
    | (refine And.intro trivial ?_)
    | (refine d_CutU (c := 35) (hs := by omega) (h0 := ?_) ..)
    | (refine Exists.intro _ (And.intro (fun τ => callW_fn (d_CutU (c := 35) (hs := by omega) (h0 := And.intro rfl rfl) ..)) ?_))
    | (refine Exists.intro _ (And.intro (callW_fn (d_CutU (c := 35) (hs := by omega) (h0 := And.intro rfl rfl) ..)) (And.intro trivial ?_)))
    | (refine Exists.intro _ (And.intro (callW_fn (d_CutU (c := 35) (hs := by omega) (h0 := And.intro rfl rfl) ..)) ?_))
    | (refine Exists.intro _ (And.intro (fun τ _ => callW_fn (d_CutU (c := 35) (hs := by omega) (h0 := And.intro rfl rfl) ..)) ?_))
    | (refine d_AppendU (hs := by omega) (ht := ht) (h1 := fun hv => ?_) (h2 := fun hv => ?_) ..)
    | (refine Exists.intro _ (And.intro rfl (And.intro rfl (And.intro (Nat.le_of_ble_eq_true rfl) ?_))))
    | (refine Exists.intro _ (And.intro rfl (And.intro rfl (And.intro rfl (And.intro (Nat.le_of_ble_eq_true rfl) ?_)))))
    | (refine And.intro (Exists.intro _ (And.intro rfl rfl)) ?_)
    | (exact fun hW => absurd hW (by decide +kernel))
    | (intro hW; (try simp only [Bool.not_true, Bool.not_false, Bool.not_eq_true', Bool.not_eq_false', decide_eq_true_eq, decide_eq_false_iff_not, reduceCtorEq, Bool.true_eq_false, Bool.false_eq_true, mk_size, List.size_toArray, ByteArray.size_append, ByteArray.size_extract, List.length_cons, List.length_nil, ba_get, ba_empty, Int.toNat_natCast] at hW))
    | (refine And.intro (?_ : _ → _) (?_ : _ → _))
    | (refine FinR.drop 0 (Nat.zero_le _) (Closed.zero _) rfl ?_)
    | (refine FinR.keep ?_)
    | (refine And.intro (det3_agg rfl) ?_)
    | (refine fL_mk ?_)
    | (refine And.intro (by (try simp only [mk_size, List.size_toArray, ByteArray.size_append, ByteArray.size_extract, List.length_cons, List.length_nil]); omega) ?_)
    | (refine And.intro (by (try simp only [mk_size, List.size_toArray, ByteArray.size_append, ByteArray.size_extract, List.length_cons, List.length_nil, wrap64_eq]); omega) ?_)
    | fail)
  · refine h1 ⟨hv, tl_ext ?_⟩
    have := eq_of_beq hW; rwa [toList_tl, toList_tl] at this
  · refine h2 fun hq => ?_
    rw [hq.2, beq_self_eq_true] at hW; cases hW
  · exact h2 fun hq => hv hq.1
theorem d_VerifyChecksum (s : ByteArray) (hs : s.size < 1000000) (ht : TabP W0) (K : Cont) (h1 : sealedB (bs (bef 35 (tl s))) s → K (.tup [St (bs (bef 35 (tl s))), Bo true]) σ) (h2 : ¬ sealedB (bs (bef 35 (tl s))) s → K (.tup [St ⟨#[]⟩, Bo false]) σ) : ACall Tryd.prog W0 30 [St s] σ K := by
  by_cases h : sealedB (bs (bef 35 (tl s))) s
  · exact ACall.lift rfl (fun _ => rfl) (fun W1 K hb hK => c_VerifyChecksum s hs (ht.mono hb) K (fun _ => hK) (fun h' => (h' h).elim)) (h1 h)
  · exact ACall.lift rfl (fun _ => rfl) (fun W1 K hb hK => c_VerifyChecksum s hs (ht.mono hb) K (fun h' => (h h').elim) (fun _ => hK)) (h2 h)
theorem hasPrefix_iff (s p : Bs) : Lib.hasPrefix s p = true ↔ ∃ t, s = p ++ t := by
  unfold Lib.hasPrefix
  rw [List.isPrefixOf_iff_prefix]
  constructor
  · rintro ⟨t, h⟩; exact ⟨t, h.symm⟩
  · rintro ⟨t, h⟩; exact ⟨t, h.symm⟩
theorem any_of_aft {c : UInt8} {l p t : Bs} (h : p.any (· == c) = false) (e : l = p ++ c :: t) : aft c l = t ∧ l.any (· == c) = true ∧ bef c l = p := by
  subst e; have := bef_of (t := t) h; exact ⟨this.2.1, this.2.2, this.1⟩
/-- what the program makes of a record that stands there -/
theorem next_parts {k : Nat} {c r s : ByteArray} {t' : Bs} (hk : k < 60) (hv : recB c r = true) (he : tl s = tl (lineB k c r) ++ t') :
    (tl s).any (· == 10) = true ∧ bs (bef 10 (tl s)) = sealB (bodyB k c r) ∧ bs (bef 35 (tl (sealB (bodyB k c r)))) = bodyB k c r ∧ sealedB (bodyB k c r) (sealB (bodyB k c r)) ∧
      bs (bef 64 (tl (aftB 32 (bodyB k c r)))) = c ∧ aftB 64 (aftB 32 (bodyB k c r)) = r := by
  obtain ⟨h1, h2, h3⟩ := line_bef (k := k) hv t'
  rw [← he] at h1 h2 h3
  obtain ⟨_, _, p3, p4, _, p6⟩ := recB_parts hv
  have b1 := bodyB_size k (by omega) c r
  have b2 := sealB_size (bodyB k c r)
  have q := any_of_aft (c := 32) (l := tl (bodyB k c r)) (num_no k 32 (by decide)) (by rw [tl_body, List.append_assoc]; rfl)
  have e1 : aftB 32 (bodyB k c r) = bs (tl c ++ 64 :: tl r) := by unfold aftB; rw [if_pos q.2.1, q.1]; rfl
  have q2 := any_of_aft (c := 64) (l := tl (bs (tl c ++ 64 :: tl r))) p4 rfl
  refine ⟨h3, by rw [h1, bs_tl], by rw [seal_bef (body_no hv), bs_tl], ⟨⟨by omega, body_no hv, by omega⟩, rfl⟩, ?_, ?_⟩
  · rw [e1, q2.2.2, bs_tl]
  · rw [e1]; unfold aftB; rw [if_pos q2.2.1, q2.1, bs_tl]
theorem c_nextRecord (s : ByteArray) (k : Nat) (hk : k ≤ 60) (hs : s.size < 1000000) (ht : TabP W0) (K : Cont) (h1 : ∀ c r t', k < 60 → recB c r = true → tl s = tl (lineB k c r) ++ t' → K (.tup [Rc c r, St (lineB k c r), Bo true]) []) (h2 : ∀ c r code, Last k (tl s) → K (.tup [Rc c r, St code, Bo false]) []) : ACall Tryd.prog W0 24 [St s, I k] [] K := by
  refine by24 (Nat.le_of_ble_eq_true rfl) ?_
  have tls := tl_len s
  have hb := bef_len_le 10 (tl s)
  have hb' : (bs (bef 10 (tl s))).size = (bef 10 (tl s)).length := by simp only [mk_size, List.size_toArray]
  have hc := bef_len_le 35 (tl (bs (bef 10 (tl s))))
  have hc' : (bs (bef 35 (tl (bs (bef 10 (tl s)))))).size = (bef 35 (tl (bs (bef 10 (tl s))))).length := by simp only [mk_size, List.size_toArray]
  have hd : (tl (bs (bef 10 (tl s)))).length = (bef 10 (tl s)).length := rfl
  obtain ⟨body, hbody⟩ : ∃ x, x = bs (bef 35 (tl (bs (bef 10 (tl s))))) := ⟨_, rfl⟩
  have a1 := aftB_size 32 body
  have a2 := aftB_size 64 (aftB 32 body)
  have a3 := bef_len_le 64 (tl (aftB 32 body))
  have a4 := tl_len (aftB 32 body)
  have a5 : (bs (bef 64 (tl (aftB 32 body)))).size = (bef 64 (tl (aftB 32 body))).length := by simp only [mk_size, List.size_toArray]
  have a6 : body.size < 1000000 := by rw [hbody]; omega
  repeat' ((conv => whnf); first
    | (refine And.intro rfl ?_)
    | (refine And.intro (by decide +kernel) ?_)
    | (refine And.intro trivial ?_)
    | (refine d_CutU (c := 10) (hs := by omega) (h0 := ?_) ..)
    | (refine Exists.intro _ (And.intro (fun τ => callW_fn (d_CutU (c := 10) (hs := by omega) (h0 := And.intro rfl rfl) ..)) ?_))
    | (refine Exists.intro _ (And.intro (callW_fn (d_CutU (c := 10) (hs := by omega) (h0 := And.intro rfl rfl) ..)) (And.intro trivial ?_)))
    | (refine Exists.intro _ (And.intro (callW_fn (d_CutU (c := 10) (hs := by omega) (h0 := And.intro rfl rfl) ..)) ?_))
    | (refine Exists.intro _ (And.intro (fun τ _ => callW_fn (d_CutU (c := 10) (hs := by omega) (h0 := And.intro rfl rfl) ..)) ?_))
    | (refine d_VerifyChecksum (hs := by omega) (ht := ht) (h1 := fun hv => ?_) (h2 := fun hv => ?_) .. <;> (try rw [← hbody]))
    | (refine d_CutU (s := body) (c := 32) (hs := by omega) (h0 := ?_) ..)
    | (refine d_CutU (s := aftB 32 body) (c := 64) (hs := by omega) (h0 := ?_) ..)
    | (refine d_EncodeU (hc := by omega) (hr := by omega) (ht := ht) (h1 := fun hv' => ?_) (h2 := fun hv' => ?_) ..)
    | (refine d_HasPrefix (h0 := ?_) ..)
    | (refine Exists.intro _ (And.intro (fun τ => callW_fn (d_HasPrefix (h0 := And.intro rfl rfl) ..)) ?_))
    | (refine Exists.intro _ (And.intro (callW_fn (d_HasPrefix (h0 := And.intro rfl rfl) ..)) (And.intro trivial ?_)))
    | (refine Exists.intro _ (And.intro (callW_fn (d_HasPrefix (h0 := And.intro rfl rfl) ..)) ?_))
    | (refine Exists.intro _ (And.intro (fun τ _ => callW_fn (d_HasPrefix (h0 := And.intro rfl rfl) ..)) ?_))
    | (refine Exists.intro _ (And.intro rfl (And.intro rfl (And.intro (Nat.le_of_ble_eq_true rfl) ?_))))
    | (refine Exists.intro _ (And.intro rfl (And.intro rfl (And.intro rfl (And.intro (Nat.le_of_ble_eq_true rfl) ?_)))))
    | (refine And.intro (Exists.intro _ (And.intro rfl rfl)) ?_)
    | (exact fun hW => absurd hW (by decide +kernel))
    | (intro hW; (try simp only [Bool.not_true, Bool.not_false, Bool.not_eq_true', Bool.not_eq_false', decide_eq_true_eq, decide_eq_false_iff_not, reduceCtorEq, Bool.true_eq_false, Bool.false_eq_true, mk_size, List.size_toArray, ByteArray.size_append, ByteArray.size_extract, List.length_cons, List.length_nil, ba_get, ba_empty, Int.toNat_natCast] at hW))
    | (refine And.intro (?_ : _ → _) (?_ : _ → _))
    | (refine FinR.drop 0 (Nat.zero_le _) (Closed.zero _) rfl ?_)
    | (refine FinR.keep ?_)
    | (refine And.intro (det3_agg rfl) ?_)
    | (refine fL_mk ?_)
    | (refine And.intro (by (try simp only [mk_size, List.size_toArray, ByteArray.size_append, ByteArray.size_extract, List.length_cons, List.length_nil]); omega) ?_)
    | (refine And.intro (by (try simp only [mk_size, List.size_toArray, ByteArray.size_append, ByteArray.size_extract, List.length_cons, List.length_nil, wrap64_eq]); omega) ?_)
    | fail)
  · have key : ∀ b, b = Lib.hasPrefix (tl s) (tl (lineB k (bs (bef 64 (tl (aftB 32 body)))) (aftB 64 (aftB 32 body)))) → K (.tup [Rc (bs (bef 64 (tl (aftB 32 body)))) (aftB 64 (aftB 32 body)), St (lineB k (bs (bef 64 (tl (aftB 32 body)))) (aftB 64 (aftB 32 body))), Bo b]) [] := by
      intro b hb2
      cases b with
      | true =>
        obtain ⟨t', ht'⟩ := (hasPrefix_iff _ _).1 hb2.symm
        exact h1 _ _ t' hv'.1 hv'.2 ht'
      | false =>
        refine h2 _ _ _ fun ⟨c', r', t', hk', hv0, he⟩ => ?_
        obtain ⟨p1, p2, p3, p4, p5, p6⟩ := next_parts hk' hv0 he
        have eb : body = bodyB k c' r' := by rw [hbody, p2, p3]
        rw [eb, p5, p6, (hasPrefix_iff _ _).2 ⟨t', he⟩] at hb2
        cases hb2
    exact key _ rfl
  · refine h2 _ _ _ fun ⟨c', r', t', hk', hv0, he⟩ => ?_
    obtain ⟨p1, p2, p3, p4, p5, p6⟩ := next_parts hk' hv0 he
    have eb : body = bodyB k c' r' := by rw [hbody, p2, p3]
    rw [eb, p5, p6] at hv'
    exact hv' ⟨hk', hv0⟩
  · rename_i e1 _
    refine h2 _ _ _ fun ⟨c', r', t', hk', hv0, he⟩ => ?_
    obtain ⟨p1, _⟩ := next_parts hk' hv0 he
    rw [p1] at e1; cases e1
  · refine h2 _ _ _ fun ⟨c', r', t', hk', hv0, he⟩ => ?_
    obtain ⟨p1, p2, p3, p4, p5, p6⟩ := next_parts hk' hv0 he
    rw [p2, p3] at hv
    exact hv p4
  · refine h2 _ _ _ fun ⟨c', r', t', hk', hv0, he⟩ => ?_
    obtain ⟨p1, p2, p3, p4, p5, p6⟩ := next_parts hk' hv0 he
    rw [p2, p3] at hv
    exact hv p4
theorem d_nextRecord (s : ByteArray) (k : Nat) (hk : k ≤ 60) (hs : s.size < 1000000) (ht : TabP W0) (K : Cont) (h1 : ∀ c r t', k < 60 → recB c r = true → tl s = tl (lineB k c r) ++ t' → K (.tup [Rc c r, St (lineB k c r), Bo true]) σ) (h2 : ∀ c r code, Last k (tl s) → K (.tup [Rc c r, St code, Bo false]) σ) : ACall Tryd.prog W0 24 [St s, I k] σ K := by
  refine ACall.frame (K0 := fun v σ' => σ' = [] ∧ ((∃ c r t', k < 60 ∧ recB c r = true ∧ tl s = tl (lineB k c r) ++ t' ∧ v = .tup [Rc c r, St (lineB k c r), Bo true]) ∨ ∃ c r code, Last k (tl s) ∧ v = .tup [Rc c r, St code, Bo false])) rfl
    (fun W1 hb => c_nextRecord s k hk hs (ht.mono hb) _ (fun c r t' a b d => ⟨rfl, .inl ⟨c, r, t', a, b, d, rfl⟩⟩) fun c r code a => ⟨rfl, .inr ⟨c, r, code, a, rfl⟩⟩) ?_
  have e : σ ++ shB σ.length [] = σ := by simp [shB]
  rintro v σ' ⟨rfl, ⟨c, r, t', a, b, d, rfl⟩ | ⟨c, r, code, a, rfl⟩⟩
  · rw [e]; exact h1 c r t' a b d
  · rw [e]; exact h2 c r code a
/-- where each record ends -/
def endsL (es : List Rec) : List Nat := (List.range (es.length + 1)).map fun i => (encL 0 (es.take i)).length
theorem endsL_snoc (es : List Rec) (e : Rec) : endsL (es ++ [e]) = endsL es ++ [(encL 0 (es ++ [e])).length] := by
  unfold endsL
  rw [show (es ++ [e]).length + 1 = es.length + 1 + 1 by simp, List.range_succ, List.map_append]
  congr 1
  · apply List.map_congr_left
    intro i hi
    rw [List.take_append_of_le_length (by have := List.mem_range.1 hi; omega)]
  · show [(encL 0 ((es ++ [e]).take (es.length + 1))).length] = _
    rw [List.take_of_length_le (by simp)]
def icells (l : List Nat) : List AV := l.map fun n => .lit (.int .i64 (n : Nat))
theorem icells_len (l : List Nat) : (icells l).length = l.length := by simp [icells]
theorem icells_bel (k : Nat) (l : List Nat) : (icells l).all (bel1 k) = true := by
  rw [List.all_eq_true]; intro x hx; obtain ⟨n, _, rfl⟩ := List.mem_map.1 hx; rfl
theorem icells_sh (k : Nat) (l : List Nat) : (icells l).map (sh1 k) = icells l := by unfold icells; rw [List.map_map]; rfl
theorem closed2 {k : Nat} {c c' : List AV} {v v' : Nat} {e e' z z' : Nat} {r r' m m' : Bool} (h : c.all (bel1 k) = true) (h' : c'.all (bel1 k) = true) : Closed k [(⟨c, v, e, z, r, m⟩ : Blk), ⟨c', v', e', z', r', m'⟩] := by
  intro B hB
  rcases List.mem_cons.1 hB with rfl | hB
  · exact h
  · rw [List.mem_singleton.1 hB]; exact h'
theorem blk2_ext {c c' d d' : List AV} {v v' w w' : Nat} {e z e' z' : Nat} {r m r' m' : Bool} (h1 : c = c') (h2 : v = v') (h3 : d = d') (h4 : w = w') : [(⟨c, v, e, z, r, m⟩ : Blk), ⟨d, w, e', z', r', m'⟩] = [⟨c', v', e, z, r, m⟩, ⟨d', w', e', z', r', m'⟩] := by subst h1; subst h2; subst h3; subst h4; rfl
structure RoX where
  es : List Rec
  v1 : Nat
  c1 : Nat
  v2 : Nat
  c2 : Nat
theorem c_recordsOf (s : ByteArray) (hs : s.size < 1000000) (ht : TabP W0) (K : Cont) (h0 : ∀ es n v1 c1 v2 c2, Reads (tl s) es n → K (.tup [.sl 0 v1 0 es.length c1, .sl 1 v2 0 (es.length + 1) c2]) [⟨rcells es, v1, 44, 2, true, true⟩, ⟨icells (endsL es), v2, 3, 1, true, true⟩]) : ACall Tryd.prog W0 17 [St s] [] K := by
  refine by17 (Nat.le_of_ble_eq_true rfl) ?_
  have tls := tl_len s
  repeat' ((conv => whnf); first
    | (refine And.intro rfl ?_)
    | (refine And.intro (by decide +kernel) ?_)
    | (refine And.intro trivial ?_)
    | (refine Exists.intro _ (And.intro rfl (And.intro rfl (And.intro (Nat.le_of_ble_eq_true rfl) ?_))))
    | (refine Exists.intro _ (And.intro rfl (And.intro rfl (And.intro rfl (And.intro (Nat.le_of_ble_eq_true rfl) ?_)))))
    | (refine And.intro (Exists.intro _ (And.intro rfl rfl)) ?_)
    | (exact fun hW => absurd hW (by decide +kernel))
    | (intro hW; (try simp only [Bool.not_true, Bool.not_false, Bool.not_eq_true', Bool.not_eq_false', decide_eq_true_eq, decide_eq_false_iff_not, reduceCtorEq, Bool.true_eq_false, Bool.false_eq_true, mk_size, List.size_toArray, ByteArray.size_append, ByteArray.size_extract, List.length_cons, List.length_nil, ba_get, ba_empty, Int.toNat_natCast] at hW))
    | (refine And.intro (?_ : _ → _) (?_ : _ → _))
    | (refine FinR.drop 0 (Nat.zero_le _) (Closed.zero _) rfl ?_)
    | (refine FinR.keep ?_)
    | (refine And.intro (det3_agg rfl) ?_)
    | (refine fL_mk ?_)
    | (refine And.intro (by (try simp only [mk_size, List.size_toArray, ByteArray.size_append, ByteArray.size_extract, List.length_cons, List.length_nil]); omega) ?_)
    | (refine And.intro (by (try simp only [mk_size, List.size_toArray, ByteArray.size_append, ByteArray.size_extract, List.length_cons, List.length_nil, wrap64_eq]); omega) ?_)
    | fail)
  refine LoopR.live (fun x : RoX => [(0, St s), (4, .sl 0 x.v1 0 x.es.length x.c1), (5, .sl 1 x.v2 0 (x.es.length + 1) x.c2), (6, I (encL 0 x.es).length)]) (fun x => [⟨rcells x.es, x.v1, 44, 2, true, true⟩, ⟨icells (endsL x.es), x.v2, 3, 1, true, true⟩])
    (fun x => x.es.length ≤ 60 ∧ (encL 0 x.es).length ≤ s.size ∧ tl s = encL 0 x.es ++ (tl s).drop (encL 0 x.es).length ∧ ∀ e ∈ x.es, recB e.1 e.2 = true) (fun x => s.size - (encL 0 x.es).length) ⟨[], 0, 0, 0, 1⟩ ⟨rfl, rfl, rfl, rfl, trivial⟩ (.keep rfl) ⟨Nat.zero_le _, Nat.zero_le _, rfl, fun e he => by cases he⟩ ?_
  rintro ⟨es, v1, c1, v2, c2⟩ ⟨h1, h2, h4, h5⟩
  dsimp only at h1 h2 h4 h5
  obtain ⟨n, h3⟩ : ∃ n, n = (encL 0 es).length := ⟨_, rfl⟩
  have hx : s.extract (((encL 0 es).length : Nat) : Int).toNat (((s.size : Nat) : Int)).toNat = bs ((tl s).drop (encL 0 es).length) := by
    rw [Lib.extract_eq, Int.toNat_natCast, Int.toNat_natCast]
    show bs (((tl s).drop (encL 0 es).length).take (s.size - (encL 0 es).length)) = _
    rw [List.take_of_length_le (by rw [List.length_drop]; omega)]
  have hl : ((tl s).drop (encL 0 es).length).length = s.size - (encL 0 es).length := by rw [List.length_drop, tls]
  have he : (endsL es).length = es.length + 1 := by simp [endsL]
  repeat' ((conv => whnf); first
    | (refine And.intro rfl ?_)
    | (refine And.intro (by decide +kernel) ?_)
    | (refine And.intro trivial ?_)
    | (rw [hx]; refine d_nextRecord (s := bs ((tl s).drop (encL 0 es).length)) (k := es.length) (hk := by omega) (hs := by simp only [mk_size, List.size_toArray]; omega) (ht := ht) (h1 := fun c r t' hk hv htl => ?_) (h2 := fun c r code hla => ?_) ..)
    | (refine Exists.intro _ (And.intro rfl (And.intro rfl (And.intro rfl (And.intro rfl (And.intro rfl (And.intro rfl (And.intro (by decide) (And.intro (by simp [rcells_len, icells_len, he]) (And.intro rfl (And.intro (by (try dsimp only); unfold maxLen; omega) (And.intro (by (try dsimp only); omega) (fun cap' hcap1 hcap2 => ?_)))))))))))))
    | (refine FinR.drop 2 (Nat.zero_le _) (closed2 (rcells_bel _ _) (icells_bel _ _)) rfl ?_)
    | (refine Exists.intro _ (And.intro rfl (And.intro rfl (And.intro (Nat.le_of_ble_eq_true rfl) ?_))))
    | (refine Exists.intro _ (And.intro rfl (And.intro rfl (And.intro rfl (And.intro (Nat.le_of_ble_eq_true rfl) ?_)))))
    | (refine And.intro (Exists.intro _ (And.intro rfl rfl)) ?_)
    | (exact fun hW => absurd hW (by decide +kernel))
    | (intro hW; (try simp only [Bool.not_true, Bool.not_false, Bool.not_eq_true', Bool.not_eq_false', decide_eq_true_eq, decide_eq_false_iff_not, reduceCtorEq, Bool.true_eq_false, Bool.false_eq_true, mk_size, List.size_toArray, ByteArray.size_append, ByteArray.size_extract, List.length_cons, List.length_nil, ba_get, ba_empty, Int.toNat_natCast] at hW))
    | (refine And.intro (?_ : _ → _) (?_ : _ → _))
    | (refine FinR.drop 0 (Nat.zero_le _) (Closed.zero _) rfl ?_)
    | (refine FinR.keep ?_)
    | (refine And.intro (det3_agg rfl) ?_)
    | (refine fL_mk ?_)
    | (refine And.intro (by (try simp only [mk_size, List.size_toArray, ByteArray.size_append, ByteArray.size_extract, List.length_cons, List.length_nil]); omega) ?_)
    | (refine And.intro (by (try simp only [mk_size, List.size_toArray, ByteArray.size_append, ByteArray.size_extract, List.length_cons, List.length_nil, wrap64_eq]); omega) ?_)
    | fail)
  · have htl' : (tl s).drop (encL 0 es).length = tl (lineB es.length c r) ++ t' := htl
    have hen : encL 0 (es ++ [(c, r)]) = encL 0 es ++ tl (lineB es.length c r) := by rw [encL_snoc, Nat.zero_add]
    have hle : (encL 0 (es ++ [(c, r)])).length = (encL 0 es).length + (lineB es.length c r).size := by rw [hen, List.length_append, tl_len]
    have hle2 : (encL 0 es).length + (lineB es.length c r).size ≤ s.size := by
      have := congrArg List.length h4
      rw [htl'] at this
      simp only [List.length_append, tl_len] at this
      omega
    have hpos : 1 ≤ (lineB es.length c r).size := by rw [← tl_len, tl_line]; simp
    have hw : IntKind.i64.wrap ((((encL 0 es).length : Nat) : Int) + (((lineB es.length c r).size : Nat) : Int)) = (((encL 0 (es ++ [(c, r)])).length : Nat) : Int) := by
      rw [hle, wrap_i64 _ (by omega) (by omega)]; omega
    refine Again.go ⟨es ++ [(c, r)], v1 + 1, _, v2 + 1, _⟩ ⟨rfl, sl_len (by simp), sl_len (by simp), slI hw, trivial⟩ (.drop 2 (Nat.zero_le _) (blk2_ext ?_ rfl ?_ rfl) (closed2 (rcells_bel _ _) (icells_bel _ _)) rfl) ⟨by simp; omega, by dsimp only; omega, ?_, ?_⟩ (by dsimp only; omega)
    · show rcells (es ++ [(c, r)]) = rcells es ++ [AV.lit (.string c), AV.lit (.string r)]
      simp [rcells]
    · show icells (endsL (es ++ [(c, r)])) = icells (endsL es) ++ [AV.lit (.int .i64 (IntKind.i64.wrap ((((encL 0 es).length : Nat) : Int) + (((lineB es.length c r).size : Nat) : Int))))]
      rw [endsL_snoc, hw]; simp [icells]
    · dsimp only
      rw [hen, List.length_append, ← List.drop_drop, htl', List.drop_left, List.append_assoc, ← htl']
      exact h4
    · intro e he'
      rcases List.mem_append.1 he' with h | h
      · exact h5 e h
      · rw [List.mem_singleton.1 h]; exact hv
  · exact h0 es (encL 0 es).length v1 c1 v2 c2 ⟨rfl, ⟨_, h4, hla⟩, h5, h1⟩
theorem d_recordsOf (s : ByteArray) (hs : s.size < 1000000) (ht : TabP W0) (K : Cont) (h0 : ∀ es n v1 c1 v2 c2, Reads (tl s) es n → K (.tup [.sl σ.length v1 0 es.length c1, .sl (σ.length + 1) v2 0 (es.length + 1) c2]) (σ ++ [⟨rcells es, v1, 44, 2, true, true⟩, ⟨icells (endsL es), v2, 3, 1, true, true⟩])) : ACall Tryd.prog W0 17 [St s] σ K := by
  refine ACall.frame (K0 := fun v σ' => ∃ es n v1 c1 v2 c2, Reads (tl s) es n ∧ v = .tup [.sl 0 v1 0 es.length c1, .sl 1 v2 0 (es.length + 1) c2] ∧ σ' = [⟨rcells es, v1, 44, 2, true, true⟩, ⟨icells (endsL es), v2, 3, 1, true, true⟩]) rfl (fun W1 hb => c_recordsOf s hs (ht.mono hb) _ fun es n v1 c1 v2 c2 h => ⟨es, n, v1, c1, v2, c2, h, rfl, rfl⟩) ?_
  rintro v σ' ⟨es, n, v1, c1, v2, c2, h, rfl, rfl⟩
  have := h0 es n v1 c1 v2 c2 h
  simp only [sh3, sh2, sh1, shB, List.map_cons, List.map_nil, rcells_sh, icells_sh, Nat.add_zero]
  exact this
theorem ends_last {l : Bs} {es : List Rec} {n : Nat} (h : Reads l es n) : (icells (endsL es)).drop es.length = [I (n : Nat)] := by
  rcases List.eq_nil_or_concat es with e | ⟨es', x, e⟩
  · subst e; have := h.len; subst this; rfl
  · rw [List.concat_eq_append] at e
    subst e
    rw [endsL_snoc, icells, List.map_append, List.drop_append, h.len]
    have e1 : (List.map (fun n : Nat => AV.lit (.int .i64 (n : Nat))) (endsL es')).drop (es' ++ [x]).length = [] := List.drop_eq_nil_of_le (by simp [endsL])
    rw [e1]; simp [endsL]
theorem ends_at {l : Bs} {es : List Rec} {n : Nat} (h : Reads l es n) : ((icells (endsL es)).drop (0 + ((es.length : Nat) : Int).toNat * 1)).take 1 = [I (n : Nat)] := by
  rw [Int.toNat_natCast, Nat.zero_add, Nat.mul_one, ends_last h]; rfl
end Go.Proofs.YtlmplfgnhibfcaaDoor
