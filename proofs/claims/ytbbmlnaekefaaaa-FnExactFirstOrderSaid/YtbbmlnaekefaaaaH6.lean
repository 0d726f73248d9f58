import Derived.Test.YtbbmlnaekefaaaaH5
section
/- Orders: lists of own lists in memory. -/
set_option linter.unusedVariables false
set_option linter.unusedSimpArgs false
set_option maxRecDepth 100000
set_option maxHeartbeats 4000000
namespace Go.Proofs.Ytbbmlnaekefaaaa
open Go Go.RowKit Go.Proofs.Ytbbmlnaekefaaaa.Abs
variable {W0 : World} {σ : List Blk}
/-- an own list of ints at whatever block -/
def Ord1 (S : List Blk) (a : AV) (l : List Int) : Prop := ∃ b v cap B, a = .sl b v 0 l.length cap ∧ S[b]? = some B ∧ B.cells = l.map I ∧ B.ver = v ∧ B.e = 3 ∧ B.esz = 1
/-- cells that are slices of own lists -/
def Nest (S : List Blk) (cs : List AV) (L : List (List Int)) : Prop := cs.length = L.length ∧ ∀ (i : Nat) (a : AV) (l : List Int), cs[i]? = some a → L[i]? = some l → Ord1 S a l
theorem Ord1.keep {S S' : List Blk} {a : AV} {l : List Int} (h : Ord1 S a l) (hk : ∀ (j : Nat) (B : Blk), S[j]? = some B → S'[j]? = some B) : Ord1 S' a l := by
  obtain ⟨b, v, cap, B, h1, h2, h3, h4⟩ := h
  exact ⟨b, v, cap, B, h1, hk _ _ h2, h3, h4⟩
theorem Nest.nil {S : List Blk} : Nest S [] [] := ⟨rfl, fun i a l h => by simp at h⟩
theorem Nest.keep {S S' : List Blk} {cs : List AV} {L : List (List Int)} (h : Nest S cs L) (hk : ∀ (j : Nat) (B : Blk), S[j]? = some B → S'[j]? = some B) : Nest S' cs L :=
  ⟨h.1, fun i a l h1 h2 => (h.2 i a l h1 h2).keep hk⟩
theorem Nest.snoc {S : List Blk} {cs : List AV} {L : List (List Int)} {a : AV} {l : List Int} (h : Nest S cs L) (ha : Ord1 S a l) : Nest S (cs ++ [a]) (L ++ [l]) := by
  refine ⟨by rw [List.length_append, List.length_append, h.1]; rfl, fun i a' l' h1 h2 => ?_⟩
  by_cases hi : i < cs.length
  · rw [List.getElem?_append_left hi] at h1
    rw [List.getElem?_append_left (by rw [← h.1]; exact hi)] at h2
    exact h.2 i a' l' h1 h2
  · rw [List.getElem?_append_right (by omega)] at h1
    rw [List.getElem?_append_right (by rw [← h.1]; omega), ← h.1] at h2
    generalize i - cs.length = j at h1 h2
    cases j with
    | zero => cases h1; cases h2; exact ha
    | succ j => simp at h1
theorem Nest.get {S : List Blk} {cs : List AV} {L : List (List Int)} (h : Nest S cs L) {i : Nat} {l : List Int} (hl : L[i]? = some l) : ∃ a, cs[i]? = some a ∧ Ord1 S a l := by
  have hlt : i < cs.length := by rw [h.1]; exact getElem?_lt hl
  exact ⟨_, List.getElem?_eq_getElem hlt, h.2 i _ l (List.getElem?_eq_getElem hlt) hl⟩
/-- what becomes of the others does not matter to it: only the block of lists itself is written -/
theorem Nest.keep0 {S S' : List Blk} {cs : List AV} {L : List (List Int)} {o : Nat} {B0 : Blk} (h : Nest S cs L) (h0 : S[o]? = some B0) (he : B0.e ≠ 3) (hk : ∀ (j : Nat) (B : Blk), j ≠ o → S[j]? = some B → S'[j]? = some B) : Nest S' cs L :=
  ⟨h.1, fun i a l h1 h2 => by
    obtain ⟨b, v, cap, B, k1, k2, k3, k4, k5, k6⟩ := h.2 i a l h1 h2
    refine ⟨b, v, cap, B, k1, hk _ _ (fun e => ?_) k2, k3, k4, k5, k6⟩
    subst e
    rw [h0] at k2; cases k2
    exact he k5⟩
theorem Ord1.sli {S : List Blk} {a : AV} {l : List Int} (h : Ord1 S a l) : Sli W0 S 1 en1 a l := by
  obtain ⟨b, v, cap, B, rfl, h2, h3, h4, h5, h6⟩ := h
  obtain ⟨cs, ver, e, esz, row, room⟩ := B
  dsimp only at h3 h4 h5 h6
  subst h3; subst h4; subst h6
  exact sli_ints h2
/-- the cells seen among other blocks -/
theorem Ord1.sh {k : Nat} {S T : List Blk} {a : AV} {l : List Int} (hT : T.length = k) (h : Ord1 S a l) : Ord1 (T ++ shB k S) (sh1 k a) l := by
  obtain ⟨b, v, cap, B, rfl, h2, h3, h4⟩ := h
  subst hT
  refine ⟨T.length + b, v, cap, _, rfl, get_sh h2, ?_, h4⟩
  show B.cells.map (sh1 T.length) = _
  rw [h3, sh_I]
theorem Nest.sh {k : Nat} {S T : List Blk} {cs : List AV} {L : List (List Int)} (hT : T.length = k) (h : Nest S cs L) : Nest (T ++ shB k S) (cs.map (sh1 k)) L := by
  refine ⟨by rw [List.length_map]; exact h.1, fun i a l h1 h2 => ?_⟩
  rw [List.getElem?_map, Option.map_eq_some_iff] at h1
  obtain ⟨a', h3, rfl⟩ := h1
  exact (h.2 i a' l h3 h2).sh hT
/-- all orders are few -/
def facN : Nat → Nat
  | 0 => 1
  | n + 1 => (n + 1) * facN n
theorem perms_len : ∀ (n : Nat) (l : List Int), l.length = n → (perms n l).length = facN n
  | 0, _, _ => rfl
  | n + 1, l, h => by
    have e : ∀ i ∈ List.range l.length, ((perms n (l.eraseIdx i)).map fun r => l.getD i 0 :: r).length = facN n := by
      intro i hi
      rw [List.length_map]
      exact perms_len n _ (by rw [List.length_eraseIdx, if_pos (List.mem_range.1 hi)]; omega)
    have sum : ∀ (is : List Nat), (∀ i ∈ is, ((perms n (l.eraseIdx i)).map fun r => l.getD i 0 :: r).length = facN n) → (is.flatMap fun i => (perms n (l.eraseIdx i)).map fun r => l.getD i 0 :: r).length = is.length * facN n := by
      intro is
      induction is with
      | nil => intro _; simp
      | cons i is ih =>
        intro hs
        rw [List.flatMap_cons, List.length_append, hs i List.mem_cons_self, ih fun j hj => hs j (List.mem_cons_of_mem _ hj), List.length_cons, Nat.succ_mul, Nat.add_comm]
    show ((List.range l.length).flatMap fun i => (perms n (l.eraseIdx i)).map fun r => l.getD i 0 :: r).length = _
    rw [sum _ e, List.length_range, h]
    rfl
theorem perms_row : ∀ (n : Nat) (l : List Int), l.length = n → ∀ r ∈ perms n l, r.length = n
  | 0, _, _, r, hr => by simp [perms] at hr; subst hr; rfl
  | n + 1, l, h, r, hr => by
    obtain ⟨i, hi, hr⟩ := List.mem_flatMap.1 hr
    obtain ⟨r', hr', rfl⟩ := List.mem_map.1 hr
    rw [List.length_cons, perms_row n _ (by rw [List.length_eraseIdx, if_pos (List.mem_range.1 hi)]; omega) r' hr']
end Go.Proofs.Ytbbmlnaekefaaaa
end

section
/- Orders: own copies of lists, parts of lists that came in. -/
set_option linter.unusedVariables false
set_option linter.unusedSimpArgs false
set_option maxRecDepth 100000
set_option maxHeartbeats 4000000
namespace Go.Proofs.Ytbbmlnaekefaaaa
open Go Go.RowKit Go.Proofs.Ytbbmlnaekefaaaa.Abs
variable {W0 : World} {σ : List Blk}
/-- what is behind a place of a list that came in -/
theorem sli_suf {ad : Addr} {l : List Int} {i n cap cap' : Nat} {X : Addr} (hb : ad.block < W0.heap.size) (hx : ∀ i x, l[i]? = some x → ∀ j v, (en1 x)[j]? = some v → W0.cell? ((ad.add (i * 1)).add j) = some v ∧ v.oneCell' = true) (hi : i ≤ l.length) (hX : X = ad.add (i * 1) ∨ l.length ≤ i) (hXb : X.block = ad.block) (hn : n = l.length - i) (hc : l.length - i ≤ cap') (hm : cap' ≤ maxLen) : Sli W0 σ 1 en1 (.lit (.slice (some X) n cap')) (l.drop i) := by
  subst hn
  refine .inn _ _ _ _ (by rw [List.length_drop]) hc hm (by rw [hXb]; exact hb) fun k x hk j v hj => ?_
  rw [List.getElem?_drop] at hk
  rcases hX with rfl | h
  · have := hx (i + k) x hk j v hj
    rw [add_add] at this
    rw [add_add, add_add, show i * 1 + (k * 1 + j) = (i + k) * 1 + j by omega]
    exact this
  · have := getElem?_lt hk; omega
/-- the cells of a list that came in, as an append's source -/
theorem sli_src1 {ad : Addr} {n cap : Nat} {l : List Int} (h : Sli W0 [] 1 en1 (.lit (.slice (some ad) n cap)) l) {C : List Value → Prop} (hc : C (l.map (Value.int .i64))) :
    ∃ cs : List Value, cs.length = n * 1 ∧ (∀ (j : Nat) (v : Value), cs[j]? = some v → W0.cell? (ad.add j) = some v ∧ v.oneCell' = true) ∧ ad.block < W0.heap.size ∧ C cs := by
  cases h with
  | inn ad n cap xs hn hcc hm hb hxx =>
    refine ⟨_, by rw [List.length_map, hn, Nat.mul_one], fun j v hj => ?_, hb, hc⟩
    rw [List.getElem?_map, Option.map_eq_some_iff] at hj
    obtain ⟨x, hx, rfl⟩ := hj
    have := hxx j x hx 0 (.int .i64 x) rfl
    rw [add_add, Nat.mul_one, Nat.add_zero] at this
    exact this
theorem lits_of (l : List Int) : (l.map (Value.int .i64)).map AV.lit = l.map I := by rw [List.map_map]; rfl
theorem c_l1Own (a : AV) (l : List Int) (ha : Sli W0 [] 1 en1 a l) (hl : l.length ≤ 1048576) (K : Cont) (h0 : ∀ v cap rm, K (.sl 0 v 0 l.length cap) [⟨l.map I, v, 3, 1, true, rm⟩]) : ACall Try.prog W0 62 [a] [] K := by
  refine by62 (Nat.le_of_ble_eq_true rfl) ?_
  cases ha with
  | nil =>
    repeat' ((conv => whnf); first | (refine Exists.intro ([] : List Nat) ?_) | (refine And.intro rfl ?_) | (refine And.intro (by decide +kernel) ?_) | (refine And.intro trivial ?_) | (refine Exists.intro _ (And.intro rfl (And.intro rfl (And.intro rfl (And.intro rfl (And.intro rfl (And.intro rfl (And.intro (by decide) (And.intro rfl (And.intro rfl (And.intro (by decide) (And.intro (by decide) (fun cap' hcap1 hcap2 => ?_))))))))))))) | (refine Exists.intro _ (And.intro rfl (And.intro rfl (And.intro (Nat.le_of_ble_eq_true rfl) ?_)))) | (refine Exists.intro _ (And.intro rfl (And.intro rfl (And.intro rfl (And.intro (Nat.le_of_ble_eq_true rfl) ?_))))) | (refine And.intro (Exists.intro _ (And.intro rfl rfl)) ?_) | (exact fun hW => absurd hW (by decide +kernel)) | (intro hW; (try simp only [Bool.not_true, Bool.not_false, Bool.not_eq_true', Bool.not_eq_false', decide_eq_true_eq, decide_eq_false_iff_not, reduceCtorEq, Bool.true_eq_false, Bool.false_eq_true, mk_size, List.size_toArray, ByteArray.size_append, ByteArray.size_extract, List.length_cons, List.length_nil, ba_get, ba_empty, Int.toNat_natCast] at hW)) | (refine And.intro (?_ : _ → _) (?_ : _ → _)) | (refine FinR.drop 0 (Nat.zero_le _) (Closed.zero _) rfl ?_) | (refine FinR.keep ?_) | (refine And.intro (det3_agg rfl) ?_) | (refine fL_mk ?_) | (refine And.intro (by (try simp only [mk_size, List.size_toArray, ByteArray.size_append, ByteArray.size_extract, List.length_cons, List.length_nil]); omega) ?_) | (refine And.intro (by (try simp only [mk_size, List.size_toArray, ByteArray.size_append, ByteArray.size_extract, List.length_cons, List.length_nil, wrap64_eq]); omega) ?_) | fail)
    all_goals first | exact h0 _ _ _ | skip
  | inn ad n cap xs hn hc hm hb hxx =>
    subst hn
    have hs : Sli W0 [] 1 en1 (.lit (.slice (some ad) l.length cap)) l := .inn _ _ _ _ rfl hc hm hb hxx
    have hj : ((l.map (Value.int .i64)).map AV.lit).length = l.length * 1 := by rw [List.length_map, List.length_map, Nat.mul_one]
    repeat' ((conv => whnf); first | (refine Exists.intro ([] : List Nat) ?_) | (refine And.intro rfl ?_) | (refine And.intro (by decide +kernel) ?_) | (refine And.intro trivial ?_) | (refine sli_src1 hs ?_) | (refine Exists.intro _ (And.intro rfl (And.intro rfl (And.intro rfl (And.intro rfl (And.intro rfl (And.intro rfl (And.intro (by decide) (And.intro rfl (And.intro hj (And.intro (by unfold maxLen; omega) (And.intro (by omega) (fun cap' hcap1 hcap2 => ?_))))))))))))) | (refine Exists.intro _ (And.intro rfl (And.intro rfl (And.intro (Nat.le_of_ble_eq_true rfl) ?_)))) | (refine Exists.intro _ (And.intro rfl (And.intro rfl (And.intro rfl (And.intro (Nat.le_of_ble_eq_true rfl) ?_))))) | (refine And.intro (Exists.intro _ (And.intro rfl rfl)) ?_) | (exact fun hW => absurd hW (by decide +kernel)) | (intro hW; (try simp only [Bool.not_true, Bool.not_false, Bool.not_eq_true', Bool.not_eq_false', decide_eq_true_eq, decide_eq_false_iff_not, reduceCtorEq, Bool.true_eq_false, Bool.false_eq_true, mk_size, List.size_toArray, ByteArray.size_append, ByteArray.size_extract, List.length_cons, List.length_nil, ba_get, ba_empty, Int.toNat_natCast] at hW)) | (refine And.intro (?_ : _ → _) (?_ : _ → _)) | (refine FinR.drop 0 (Nat.zero_le _) (Closed.zero _) rfl ?_) | (refine FinR.keep ?_) | (refine And.intro (det3_agg rfl) ?_) | (refine fL_mk ?_) | (refine And.intro (by (try simp only [mk_size, List.size_toArray, ByteArray.size_append, ByteArray.size_extract, List.length_cons, List.length_nil]); omega) ?_) | (refine And.intro (by (try simp only [mk_size, List.size_toArray, ByteArray.size_append, ByteArray.size_extract, List.length_cons, List.length_nil, wrap64_eq]); omega) ?_) | fail)
    all_goals first | (rw [Nat.zero_add l.length, lits_of]; exact h0 _ _ _) | skip
  | own b ver off n cap B xs hB => simp at hB
end Go.Proofs.Ytbbmlnaekefaaaa
end

section
/- Orders: all orders of some places, by the reference. -/
set_option linter.unusedVariables false
set_option linter.unusedSimpArgs false
set_option maxRecDepth 100000
set_option maxHeartbeats 4000000
namespace Go.Proofs.Ytbbmlnaekefaaaa
open Go Go.RowKit Go.Proofs.Ytbbmlnaekefaaaa.Abs
variable {W0 : World} {σ : List Blk}
theorem varC_keepO {F : List Nat} {R : Prop} : ∀ {σ σ' : List Blk} {k : Nat}, (∀ (j : Nat) (B : Blk), σ[j]? = some B → σ'[j]? = some B) → R → varC F σ R k σ'
  | [], _, _, _, h => h
  | B :: σ, [], k, hk, h => by have := hk 0 B rfl; cases this
  | B :: σ, B' :: σ', k, hk, h => by
    have e : B' = B := Option.some.inj (hk 0 B rfl)
    have ih : varC F σ R (k + 1) σ' := varC_keepO (fun j X hj => hk (j + 1) X hj) h
    show (match memB k F with
      | true => B'.ver = B.ver ∧ B'.esz = B.esz ∧ B'.row = B.row ∧ varC F σ R (k + 1) σ'
      | false => B' = B ∧ varC F σ R (k + 1) σ' : Prop)
    subst e
    cases memB k F with
    | true => exact ⟨rfl, rfl, rfl, ih⟩
    | false => exact ⟨rfl, ih⟩
/-- an own list of own lists -/
def NestL (S : List Blk) (o : Nat) (x : AV) (L : List (List Int)) : Prop := ∃ b v cap B, x = .sl b v 0 L.length cap ∧ S[b]? = some B ∧ B.ver = v ∧ o ≤ b ∧ B.e = 43 ∧ B.esz = 1 ∧ Nest S B.cells L
theorem NestL.sh {S T : List Blk} {x : AV} {L : List (List Int)} (h : NestL S 0 x L) : NestL (T ++ shB T.length S) T.length (sh3 T.length x) L := by
  obtain ⟨b, v, cap, B, rfl, h2, h3, h4, h5, h6, h7⟩ := h
  exact ⟨T.length + b, v, cap, _, rfl, get_sh h2, h3, Nat.le_add_right _ _, h5, h6, h7.sh rfl⟩
theorem d_l1Own (a : AV) (l : List Int) (ha : Sli W0 σ 1 en1 a l) (hl : l.length ≤ 1048576) (K : Cont) (h0 : ∀ v cap rm, K (.sl σ.length v 0 l.length cap) (σ ++ [⟨l.map I, v, 3, 1, true, rm⟩])) : ACall Try.prog W0 62 [a] σ K :=
  lift_S1 (ι := Nat × Nat × Bool) (fun x => .sl 0 x.1 0 l.length x.2.1) (fun x => [⟨l.map I, x.1, 3, 1, true, x.2.2⟩]) (by kernel_rfl) ha (fun W1 a' h K hK => c_l1Own a' l h hl K fun v cap rm => hK (v, cap, rm)) K (fun x => by
    show K _ (σ ++ [(⟨(l.map I).map (sh1 σ.length), _, _, _, _, _⟩ : Blk)])
    rw [sh_I]; exact h0 _ _ _)
theorem l8_lift {n : Nat} (hc : ∀ (W0 : World) (a : AV) (l : List Int), Sli W0 [] 1 en1 a l → l.length = n → ∀ K : Cont, (∀ S x, NestL S 0 x (perms n l) → K x S) → ACall Try.prog W0 45 [a] [] K)
    (a : AV) (l : List Int) (ha : Sli W0 σ 1 en1 a l) (hl : l.length = n) (K : Cont) (h0 : ∀ S b v cap B, S[b]? = some B → B.ver = v → σ.length ≤ b → B.e = 43 → B.esz = 1 → Nest S B.cells (perms n l) → (∀ (j : Nat) (B : Blk), σ[j]? = some B → S[j]? = some B) → K (.sl b v 0 (perms n l).length cap) S) : ACall Try.prog W0 45 [a] σ K :=
  lift_S1 (ι := { p : AV × List Blk // NestL p.2 0 p.1 (perms n l) }) (fun p => p.1.1) (fun p => p.1.2) (by kernel_rfl) ha
    (fun W1 a' h K hK => hc W1 a' l h hl K fun S x hx => hK ⟨(x, S), hx⟩) K (fun p => by
      obtain ⟨b, v, cap, B, h1, h2, h3, h4, h5, h6, h7⟩ := p.2.sh (T := σ)
      rw [h1]
      exact h0 _ b v cap B h2 h3 h4 h5 h6 h7 (fun j B hj => getx1 hj))
theorem getneO {i j : Nat} {B X : Blk} (h : σ[j]? = some B) (hne : i ≠ j) : (σ.set i X)[j]? = some B := by rw [List.getElem?_set_ne hne]; exact h
theorem getsO {i : Nat} {B X : Blk} (h : σ[i]? = some B) : (σ.set i X)[i]? = some X := by rw [List.getElem?_set_self (getElem?_lt h)]
theorem suf_addr {n cap k : Nat} {ad : Addr} (h : n ≤ cap) : (if cap = ((k : Nat) : Int).toNat then ad else ad.add (((k : Nat) : Int).toNat * 1)) = ad.add (k * 1) ∨ n ≤ k := by
  rw [Int.toNat_natCast]
  split
  · right; omega
  · left; rfl
theorem suf_blk {cap k : Nat} {ad : Addr} : (if cap = ((k : Nat) : Int).toNat then ad else ad.add (((k : Nat) : Int).toNat * 1)).block = ad.block := by
  split
  · rfl
  · exact add_block _ _
theorem sli_intsE {l : List Int} {C : List AV} {b ver n cap : Nat} {e : TypeId} {r m : Bool} (hb : σ[b]? = some ⟨C, ver, e, 1, r, m⟩) (hC : C = l.map I) (hn : n = l.length) : Sli W0 σ 1 en1 (.sl b ver 0 n cap) l := by
  subst hC; subst hn; exact sli_ints hb
theorem erase_cells (l : List Int) (i : Nat) : (l.take i).map I ++ ((l.drop (i + 1)).map (Value.int .i64)).map AV.lit = (l.eraseIdx i).map I := by
  rw [lits_of, ← List.map_append, List.eraseIdx_eq_take_drop_succ]
/-- the orders so far -/
def outI (l : List Int) (n i : Nat) : List (List Int) := (List.range i).flatMap fun i => (perms n (l.eraseIdx i)).map fun r => l.getD i 0 :: r
theorem outI_succ (l : List Int) (n i : Nat) : outI l n (i + 1) = outI l n i ++ (perms n (l.eraseIdx i)).map fun r => l.getD i 0 :: r := by
  unfold outI; rw [List.range_succ, List.flatMap_append, List.flatMap_cons, List.flatMap_nil, List.append_nil]
theorem fac_le {n : Nat} (h : n ≤ 6) : facN n ≤ 720 := by
  have : n = 0 ∨ n = 1 ∨ n = 2 ∨ n = 3 ∨ n = 4 ∨ n = 5 ∨ n = 6 := by omega
  rcases this with rfl | rfl | rfl | rfl | rfl | rfl | rfl <;> decide
theorem outI_le (l : List Int) (n i : Nat) (hl : l.length = n + 1) (hn : n ≤ 6) (hi : i ≤ l.length) : (outI l n i).length ≤ 5040 := by
  have h : ∀ j, j ≤ l.length → (outI l n j).length ≤ j * 720 := by
    intro j
    induction j with
    | zero => intro _; exact Nat.le_refl _
    | succ j ih =>
      intro hj
      have := ih (by omega)
      have h2 := perms_len n (l.eraseIdx j) (by rw [List.length_eraseIdx, if_pos (by omega)]; omega)
      have h3 := fac_le hn
      rw [outI_succ, List.length_append, List.length_map, h2]; omega
  have := h i hi
  omega
structure OX where
  i : Nat
  v : Nat
  cp : Nat
  S : List Blk
theorem c_l8Orders : ∀ (n : Nat), n ≤ 6 → ∀ (W0 : World) (a : AV) (l : List Int), Sli W0 [] 1 en1 a l → l.length = n → ∀ K : Cont, (∀ S x, NestL S 0 x (perms n l) → K x S) → ACall Try.prog W0 45 [a] [] K := by
  intro n
  induction n with
  | zero =>
    intro hn6 W0 a l ha hl K h0
    obtain rfl : l = [] := List.eq_nil_of_length_eq_zero hl
    refine by45 (Nat.le_of_ble_eq_true rfl) ?_
    obtain ⟨o, m, cap, rfl, hm, -, -, -⟩ := sli_form ha
    subst hm
    repeat' ((conv => whnf); first | (refine Exists.intro ([] : List Nat) ?_) | (refine And.intro rfl ?_) | (refine And.intro (by decide +kernel) ?_) | (refine And.intro trivial ?_) | (refine Exists.intro _ (And.intro rfl (And.intro rfl (And.intro (Nat.le_of_ble_eq_true rfl) ?_)))) | (refine Exists.intro _ (And.intro rfl (And.intro rfl (And.intro rfl (And.intro (Nat.le_of_ble_eq_true rfl) ?_))))) | (refine And.intro (Exists.intro _ (And.intro rfl rfl)) ?_) | (exact fun hW => absurd hW (by decide +kernel)) | (intro hW; (try simp only [Bool.not_true, Bool.not_false, Bool.not_eq_true', Bool.not_eq_false', decide_eq_true_eq, decide_eq_false_iff_not, reduceCtorEq, Bool.true_eq_false, Bool.false_eq_true, mk_size, List.size_toArray, ByteArray.size_append, ByteArray.size_extract, List.length_cons, List.length_nil, ba_get, ba_empty, Int.toNat_natCast] at hW)) | (refine And.intro (?_ : _ → _) (?_ : _ → _)) | (refine FinR.drop 0 (Nat.zero_le _) (Closed.zero _) rfl ?_) | (refine FinR.keep ?_) | (refine And.intro (det3_agg rfl) ?_) | (refine fL_mk ?_) | (refine And.intro (by (try simp only [mk_size, List.size_toArray, ByteArray.size_append, ByteArray.size_extract, List.length_cons, List.length_nil]); omega) ?_) | (refine And.intro (by (try simp only [mk_size, List.size_toArray, ByteArray.size_append, ByteArray.size_extract, List.length_cons, List.length_nil, wrap64_eq]); omega) ?_) | fail)
    all_goals first | exact h0 _ _ ⟨1, 0, _, _, rfl, rfl, rfl, Nat.zero_le _, rfl, rfl, Nest.snoc (cs := []) (L := []) Nest.nil ⟨0, 0, _, _, rfl, rfl, rfl, rfl, rfl, rfl⟩⟩ | (exfalso; omega) | (exfalso; simp_all; done) | skip
  | succ n ih =>
    intro hn6 W0 a l ha hl K h0
    have ih := ih (by omega)
    refine by45 (Nat.le_of_ble_eq_true rfl) ?_
    obtain ⟨o, m, cap, rfl, hm, hcap, hmax, hf⟩ := sli_form ha
    subst hm
    obtain ⟨ad, rfl, hb, hxx⟩ := hf 0 _ (List.getElem?_eq_getElem (show 0 < l.length by omega))
    repeat' ((conv => whnf); first | (refine Exists.intro ([] : List Nat) ?_) | (refine And.intro rfl ?_) | (refine And.intro (by decide +kernel) ?_) | (refine And.intro trivial ?_) | (refine Exists.intro _ (And.intro rfl (And.intro rfl (And.intro (Nat.le_of_ble_eq_true rfl) ?_)))) | (refine Exists.intro _ (And.intro rfl (And.intro rfl (And.intro rfl (And.intro (Nat.le_of_ble_eq_true rfl) ?_))))) | (refine And.intro (Exists.intro _ (And.intro rfl rfl)) ?_) | (exact fun hW => absurd hW (by decide +kernel)) | (intro hW; (try simp only [Bool.not_true, Bool.not_false, Bool.not_eq_true', Bool.not_eq_false', decide_eq_true_eq, decide_eq_false_iff_not, reduceCtorEq, Bool.true_eq_false, Bool.false_eq_true, mk_size, List.size_toArray, ByteArray.size_append, ByteArray.size_extract, List.length_cons, List.length_nil, ba_get, ba_empty, Int.toNat_natCast] at hW)) | (refine And.intro (?_ : _ → _) (?_ : _ → _)) | (refine FinR.drop 0 (Nat.zero_le _) (Closed.zero _) rfl ?_) | (refine FinR.keep ?_) | (refine And.intro (det3_agg rfl) ?_) | (refine fL_mk ?_) | (refine And.intro (by (try simp only [mk_size, List.size_toArray, ByteArray.size_append, ByteArray.size_extract, List.length_cons, List.length_nil]); omega) ?_) | (refine And.intro (by (try simp only [mk_size, List.size_toArray, ByteArray.size_append, ByteArray.size_extract, List.length_cons, List.length_nil, wrap64_eq]); omega) ?_) | fail)
    all_goals first | (exfalso; omega) | (exfalso; simp_all; done) | skip
    refine LoopR.live (fun x : OX => [(0, .lit (.slice (some ad) l.length cap)), (3, .sl 0 x.v 0 (outI l n x.i).length x.cp), (4, I x.i)]) (fun x => x.S) (fun x => x.i ≤ l.length ∧ ∃ B, x.S[0]? = some B ∧ B.ver = x.v ∧ B.row = true ∧ B.e = 43 ∧ B.esz = 1 ∧ Nest x.S B.cells (outI l n x.i)) (fun x => l.length - x.i) ⟨0, 0, 0, [⟨[], 0, 43, 1, true, true⟩]⟩ ⟨rfl, rfl, rfl, trivial⟩ (.keep rfl) ⟨Nat.zero_le _, _, rfl, rfl, rfl, rfl, rfl, Nest.nil⟩ ?_
    rintro ⟨i, v, cp, S⟩ ⟨hi, B, e0, e1, e2, e3, e4, e5⟩
    dsimp only at hi e0 e1 e5
    by_cases hlt : i < l.length
    · have hli := (List.getElem?_eq_getElem hlt : l[i]? = _)
      have ew : IntKind.i64.wrap ((i : Nat) + 1 : Int) = ((i + 1 : Nat) : Int) := wsucc' i (by omega)
      repeat' ((conv => whnf); first | (rw [ew]) | (refine Exists.intro ([] : List Nat) ?_) | (refine And.intro rfl ?_) | (refine And.intro (by decide +kernel) ?_) | (refine And.intro trivial ?_) | (refine d_l1Own (l := l.take i) (ha := sli_pre hb hxx hi (addr0 _ _ _) (by show (((i : Nat) : Int)).toNat - (0 : Int).toNat = i; simp) (by show i ≤ cap - (0 : Int).toNat; simp; omega) (by show cap - (0 : Int).toNat ≤ maxLen; simp; exact hmax)) (hl := by rw [List.length_take]; omega) (h0 := fun w cc rm => varC_keepO (fun j B hj => getx1 hj) ?_) ..) | (refine sli_src1 (sli_suf (cap := cap) (i := i + 1) (X := _) (n := _) (cap' := _) hb hxx (by omega) (suf_addr hcap) suf_blk (by show (((l.length : Nat) : Int)).toNat - (((i + 1 : Nat) : Int)).toNat = l.length - (i + 1); simp) (by show l.length - (i + 1) ≤ cap - (((i + 1 : Nat) : Int)).toNat; simp; omega) (by show cap - (((i + 1 : Nat) : Int)).toNat ≤ maxLen; have := hmax; omega)) ?_) | (refine Exists.intro _ (And.intro getl (And.intro rfl (And.intro rfl (And.intro rfl (And.intro rfl (And.intro rfl (And.intro (by decide) (And.intro (by show (l.take i).length * 1 = ((l.take i).map I).length; rw [List.length_map, Nat.mul_one]) (And.intro (by rw [List.length_map, List.length_map, List.length_drop]; show l.length - (i + 1) = ((((l.length : Nat) : Int)).toNat - (((i + 1 : Nat) : Int)).toNat) * 1; simp) (And.intro (by rw [List.length_take]; show min i l.length + ((((l.length : Nat) : Int)).toNat - (((i + 1 : Nat) : Int)).toNat) ≤ maxLen; unfold maxLen; simp; omega) (And.intro (by rw [List.length_take]; show (min i l.length + ((((l.length : Nat) : Int)).toNat - (((i + 1 : Nat) : Int)).toNat)) * 8 ≤ _; simp; omega) (fun cap2 hcap1 hcap2 => varC_keepO (fun j B hj => getneO (getx1 hj) (by have := getElem?_lt hj; omega)) ?_)))))))))))); rw [set_last]) | (refine l8_lift ih (l := l.eraseIdx i) (ha := sli_intsE getl (erase_cells l i) (by rw [List.length_take, List.length_eraseIdx, if_pos hlt]; show min i l.length + ((((l.length : Nat) : Int)).toNat - (((i + 1 : Nat) : Int)).toNat) = l.length - 1; simp; omega)) (hl := by rw [List.length_eraseIdx, if_pos hlt]; omega) (h0 := fun S2 b2 v2 c2 B2 f0 f1 f2 f3 f4 f5 hk => varC_keepO (fun j B hj => hk _ _ (getx1 hj)) ?_) ..) | (refine Exists.intro _ (And.intro rfl (And.intro rfl (And.intro (Nat.le_of_ble_eq_true rfl) ?_)))) | (refine Exists.intro _ (And.intro rfl (And.intro rfl (And.intro rfl (And.intro (Nat.le_of_ble_eq_true rfl) ?_))))) | (refine And.intro (Exists.intro _ (And.intro rfl rfl)) ?_) | (exact fun hW => absurd hW (by decide +kernel)) | (intro hW; (try simp only [Bool.not_true, Bool.not_false, Bool.not_eq_true', Bool.not_eq_false', decide_eq_true_eq, decide_eq_false_iff_not, reduceCtorEq, Bool.true_eq_false, Bool.false_eq_true, mk_size, List.size_toArray, ByteArray.size_append, ByteArray.size_extract, List.length_cons, List.length_nil, ba_get, ba_empty, Int.toNat_natCast] at hW)) | (refine And.intro (?_ : _ → _) (?_ : _ → _)) | (refine FinR.drop 0 (Nat.zero_le _) (Closed.zero _) rfl ?_) | (refine FinR.keep ?_) | (refine And.intro (det3_agg rfl) ?_) | (refine fL_mk ?_) | (refine And.intro (by (try simp only [mk_size, List.size_toArray, ByteArray.size_append, ByteArray.size_extract, List.length_cons, List.length_nil]); omega) ?_) | (refine And.intro (by (try simp only [mk_size, List.size_toArray, ByteArray.size_append, ByteArray.size_extract, List.length_cons, List.length_nil, wrap64_eq]); omega) ?_) | fail)
      all_goals first | (exfalso; omega) | skip
      have hPl : (l.eraseIdx i).length = n := by rw [List.length_eraseIdx, if_pos hlt]; omega
      have hrow := perms_row n (l.eraseIdx i) hPl
      have hP720 : (perms n (l.eraseIdx i)).length ≤ 720 := by rw [perms_len n _ hPl]; exact fac_le (by omega)
      have hO : (outI l n i).length ≤ 5040 := outI_le l n i hl (by omega) hi
      have f2' : S.length ≤ b2 := by have := f2; simp only [List.length_append] at this; omega
      have lS : 0 < S.length := getElem?_lt e0
      have hb2 : b2 ≠ 0 := by omega
      have g0 : S2[0]? = some B := hk _ _ (getx1 e0)
      have g5 : Nest S2 B.cells (outI l n i) := e5.keep (fun j B hj => hk _ _ (getx1 hj))
      clear hk f2
      generalize hP : perms n (l.eraseIdx i) = P at f5 hrow hP720 ⊢
      refine LoopR.live (fun y : OX => [(0, .lit (.slice (some ad) l.length cap)), (3, .sl 0 y.v 0 ((outI l n i).length + y.i) y.cp), (4, I i), (5, .sl b2 v2 0 P.length c2), (6, I y.i)]) (fun y => y.S) (fun y => y.i ≤ P.length ∧ y.S[b2]? = some B2 ∧ Nest y.S B2.cells P ∧ ∃ B, y.S[0]? = some B ∧ B.ver = y.v ∧ B.row = true ∧ B.e = 43 ∧ B.esz = 1 ∧ Nest y.S B.cells (outI l n i ++ (P.take y.i).map fun r => l.getD i 0 :: r)) (fun y => P.length - y.i) ⟨0, v, cp, S2⟩ ⟨rfl, rfl, rfl, rfl, rfl, trivial⟩ (.keep rfl) ⟨Nat.zero_le _, f0, f5, B, g0, e1, e2, e3, e4, by simpa using g5⟩ ?_
      rintro ⟨k, v', cp', S3⟩ ⟨hk, q2, q5, B', p0, p1, p2, p3, p4, p5⟩
      dsimp only at hk q2 q5 p0 p1 p5
      have ew2 : IntKind.i64.wrap ((k : Nat) + 1 : Int) = ((k + 1 : Nat) : Int) := wsucc' k (by omega)
      by_cases hlt2 : k < P.length
      · have hPk : P[k]? = some P[k] := List.getElem?_eq_getElem hlt2
        generalize P[k] = r at hPk
        have hr := hrow r (List.mem_of_getElem? hPk)
        obtain ⟨ak, hak, b3, v3, c3, B3, rfl, u0, u1, u2, u3, u4⟩ := q5.get hPk
        have hld := fun C h => ldIn (W0 := W0) (s := 1) (enc := en1) hb hxx (k := i) hli rfl (C := C) h
        have hlk : k < B2.cells.length := getElem?_lt hak
        have hle : 0 + ((k : Nat) : Int).toNat * 1 + 1 ≤ B2.cells.length := by rw [Int.toNat_natCast]; omega
        have hcell : mkAV false (List.take 1 (List.drop (0 + ((k : Nat) : Int).toNat * 1) B2.cells)) = .sl b3 v3 0 r.length c3 := by
          rw [Int.toNat_natCast, Nat.zero_add, Nat.mul_one, List.drop_eq_getElem_cons hlk]
          have : B2.cells[k] = .sl b3 v3 0 r.length c3 := by rw [List.getElem?_eq_getElem hlk] at hak; exact Option.some.inj hak
          rw [this]; rfl
        have hle3 : 0 + r.length * 1 ≤ B3.cells.length := by rw [u1, List.length_map]; omega
        have htk3 : List.take (r.length * 1) (List.drop 0 B3.cells) = r.map I := by rw [u1, List.drop_zero, Nat.mul_one, ← List.length_map (f := I), List.take_length]
        have hj3 : (r.map I).length = r.length * 1 := by rw [List.length_map, Nat.mul_one]
        have hlen : ((outI l n i).length + k) * 1 = B'.cells.length := by rw [p5.1, List.length_append, List.length_map, List.length_take, Nat.min_eq_left hk, Nat.mul_one]
        have lS3 : 0 < S3.length := getElem?_lt p0
        repeat' ((conv => whnf); first | (rw [ew2]) | (refine Exists.intro _ (And.intro q2 (And.intro f1 (And.intro hle ?_))); rw [hcell]) | (refine Exists.intro _ (And.intro (getx1 u0) (And.intro u2 (And.intro hle3 ?_))); rw [htk3]) | (refine Exists.intro ([] : List Nat) ?_) | (refine And.intro rfl ?_) | (refine And.intro (by decide +kernel) ?_) | (refine And.intro trivial ?_) | (refine hld _ ?_) | (refine And.intro ⟨_, q2, f1⟩ ?_) | (refine Exists.intro _ (And.intro getl (And.intro rfl (And.intro rfl (And.intro rfl (And.intro rfl (And.intro rfl (And.intro (by decide) (And.intro rfl (And.intro hj3 (And.intro (by unfold maxLen; omega) (And.intro (by omega) (fun cap2 hcap1 hcap2 => varC_keepO (fun j B hj => getneO (getx1 hj) (by have := getElem?_lt hj; omega)) ?_)))))))))))); rw [set_last]) | (refine fS_mk (varC_keepO (fun j B hj => getx1 hj) ?_)) | (refine fS_mk (varC_keepO (fun j B hj => getx1 (getx1 hj)) ?_)) | (refine varC_keepO (fun j B hj => getx1 hj) ?_) | (refine varC_keepO (fun j B hj => getx1 (getx1 hj)) ?_) | (refine Exists.intro _ (And.intro getl (And.intro rfl (And.intro (Nat.le_of_ble_eq_true rfl) ?_)))) | (refine Exists.intro _ (And.intro (getx1 (getx1 p0)) (And.intro p1 (And.intro rfl (And.intro p2 (And.intro p3 (And.intro p4 (And.intro (by decide) (And.intro hlen (And.intro rfl (And.intro (by show (outI l n i).length + k + 1 ≤ maxLen; unfold maxLen; omega) (And.intro (by show ((outI l n i).length + k + 1) * 24 ≤ 140737488355328; omega) (fun cap3 hcap3 hcap4 => ?_))))))))))))) | (refine Exists.intro _ (And.intro rfl (And.intro rfl (And.intro (Nat.le_of_ble_eq_true rfl) ?_)))) | (refine Exists.intro _ (And.intro rfl (And.intro rfl (And.intro rfl (And.intro (Nat.le_of_ble_eq_true rfl) ?_))))) | (refine And.intro (Exists.intro _ (And.intro rfl rfl)) ?_) | (exact fun hW => absurd hW (by decide +kernel)) | (intro hW; (try simp only [Bool.not_true, Bool.not_false, Bool.not_eq_true', Bool.not_eq_false', decide_eq_true_eq, decide_eq_false_iff_not, reduceCtorEq, Bool.true_eq_false, Bool.false_eq_true, mk_size, List.size_toArray, ByteArray.size_append, ByteArray.size_extract, List.length_cons, List.length_nil, ba_get, ba_empty, Int.toNat_natCast] at hW)) | (refine And.intro (?_ : _ → _) (?_ : _ → _)) | (refine FinR.drop 0 (Nat.zero_le _) (Closed.zero _) rfl ?_) | (refine FinR.keep ?_) | (refine And.intro (det3_agg rfl) ?_) | (refine fL_mk ?_) | (refine And.intro (by (try simp only [mk_size, List.size_toArray, ByteArray.size_append, ByteArray.size_extract, List.length_cons, List.length_nil]); omega) ?_) | (refine And.intro (by (try simp only [mk_size, List.size_toArray, ByteArray.size_append, ByteArray.size_extract, List.length_cons, List.length_nil, wrap64_eq]); omega) ?_) | fail)
        all_goals first | (exfalso; omega) | skip
        have hgd : l.getD i 0 = l[i] := by rw [List.getD_eq_getElem?_getD, hli]; rfl
        refine Again.go ⟨k + 1, v' + 1, _, _⟩ ⟨rfl, rfl, rfl, rfl, rfl, trivial⟩ (.keep rfl) ⟨by show k + 1 ≤ P.length; omega, getneO (getx1 (getx1 q2)) (Ne.symm hb2), q5.keep0 p0 (by rw [p3]; decide) (fun j B hj hB => getneO (getx1 (getx1 hB)) (Ne.symm hj)), _, getsO (getx1 (getx1 p0)), congrArg (· + 1) p1, p2, p3, p4, ?_⟩ (by show P.length - (k + 1) < P.length - k; omega)
        show Nest _ _ (outI l n i ++ (P.take (k + 1)).map fun r => l.getD i 0 :: r)
        rw [take_snoc hPk, List.map_append, ← List.append_assoc]
        exact (p5.keep0 p0 (by rw [p3]; decide) (fun j B hj hB => getneO (getx1 (getx1 hB)) (Ne.symm hj))).snoc ⟨S3.length, 1, _, _, congrArg (fun z => AV.sl S3.length 1 0 z _) (by rw [List.length_cons, Nat.add_comm]), getneO (getx1 getl) (by omega), by rw [hgd]; rfl, rfl, rfl, rfl⟩
      · obtain rfl : k = P.length := by omega
        repeat' ((conv => whnf); first | (refine Exists.intro ([] : List Nat) ?_) | (refine And.intro rfl ?_) | (refine And.intro (by decide +kernel) ?_) | (refine And.intro trivial ?_) | (refine And.intro ⟨_, q2, f1⟩ ?_) | (refine Exists.intro _ (And.intro rfl (And.intro rfl (And.intro (Nat.le_of_ble_eq_true rfl) ?_)))) | (refine Exists.intro _ (And.intro rfl (And.intro rfl (And.intro rfl (And.intro (Nat.le_of_ble_eq_true rfl) ?_))))) | (refine And.intro (Exists.intro _ (And.intro rfl rfl)) ?_) | (exact fun hW => absurd hW (by decide +kernel)) | (intro hW; (try simp only [Bool.not_true, Bool.not_false, Bool.not_eq_true', Bool.not_eq_false', decide_eq_true_eq, decide_eq_false_iff_not, reduceCtorEq, Bool.true_eq_false, Bool.false_eq_true, mk_size, List.size_toArray, ByteArray.size_append, ByteArray.size_extract, List.length_cons, List.length_nil, ba_get, ba_empty, Int.toNat_natCast] at hW)) | (refine And.intro (?_ : _ → _) (?_ : _ → _)) | (refine FinR.drop 0 (Nat.zero_le _) (Closed.zero _) rfl ?_) | (refine FinR.keep ?_) | (refine And.intro (det3_agg rfl) ?_) | (refine fL_mk ?_) | (refine And.intro (by (try simp only [mk_size, List.size_toArray, ByteArray.size_append, ByteArray.size_extract, List.length_cons, List.length_nil]); omega) ?_) | (refine And.intro (by (try simp only [mk_size, List.size_toArray, ByteArray.size_append, ByteArray.size_extract, List.length_cons, List.length_nil, wrap64_eq]); omega) ?_) | fail)
        all_goals first | (exfalso; omega) | exact Again.go ⟨i + 1, v', cp', S3⟩ ⟨rfl, congrArg (fun z => AV.sl 0 v' 0 z cp') (by rw [outI_succ, List.length_append, List.length_map, hP]), slI' (wsucc' i (by omega)), trivial⟩ (.keep rfl) ⟨by show i + 1 ≤ l.length; omega, B', p0, p1, p2, p3, p4, by rw [List.take_length] at p5; show Nest S3 B'.cells (outI l n (i + 1)); rw [outI_succ, hP]; exact p5⟩ (by show l.length - (i + 1) < l.length - i; omega)
    · obtain rfl : i = l.length := by omega
      have ho : outI l n l.length = perms (n + 1) l := rfl
      repeat' ((conv => whnf); first | (refine Exists.intro ([] : List Nat) ?_) | (refine And.intro rfl ?_) | (refine And.intro (by decide +kernel) ?_) | (refine And.intro trivial ?_) | (refine Exists.intro _ (And.intro rfl (And.intro rfl (And.intro (Nat.le_of_ble_eq_true rfl) ?_)))) | (refine Exists.intro _ (And.intro rfl (And.intro rfl (And.intro rfl (And.intro (Nat.le_of_ble_eq_true rfl) ?_))))) | (refine And.intro (Exists.intro _ (And.intro rfl rfl)) ?_) | (exact fun hW => absurd hW (by decide +kernel)) | (intro hW; (try simp only [Bool.not_true, Bool.not_false, Bool.not_eq_true', Bool.not_eq_false', decide_eq_true_eq, decide_eq_false_iff_not, reduceCtorEq, Bool.true_eq_false, Bool.false_eq_true, mk_size, List.size_toArray, ByteArray.size_append, ByteArray.size_extract, List.length_cons, List.length_nil, ba_get, ba_empty, Int.toNat_natCast] at hW)) | (refine And.intro (?_ : _ → _) (?_ : _ → _)) | (refine FinR.drop 0 (Nat.zero_le _) (Closed.zero _) rfl ?_) | (refine FinR.keep ?_) | (refine And.intro (det3_agg rfl) ?_) | (refine fL_mk ?_) | (refine And.intro (by (try simp only [mk_size, List.size_toArray, ByteArray.size_append, ByteArray.size_extract, List.length_cons, List.length_nil]); omega) ?_) | (refine And.intro (by (try simp only [mk_size, List.size_toArray, ByteArray.size_append, ByteArray.size_extract, List.length_cons, List.length_nil, wrap64_eq]); omega) ?_) | fail)
      all_goals first | (exfalso; omega) | exact FinR.keep (h0 _ _ ⟨0, v, cp, B, rfl, e0, e1, Nat.zero_le _, e3, e4, e5⟩) | exact h0 _ _ ⟨0, v, cp, B, rfl, e0, e1, Nat.zero_le _, e3, e4, e5⟩
end Go.Proofs.Ytbbmlnaekefaaaa
end

section
/- Orders: the right orders, by the reference. -/
set_option linter.unusedVariables false
set_option linter.unusedSimpArgs false
set_option maxRecDepth 100000
set_option maxHeartbeats 4000000
namespace Go.Proofs.Ytbbmlnaekefaaaa
open Go Go.RowKit Go.Proofs.Ytbbmlnaekefaaaa.Abs
variable {W0 : World} {σ : List Blk}
theorem plain_place (n : Nat) : plainL n = placL n := selN_true n
theorem d_l8Plain (n : Nat) (hn : n ≤ 1048576) (K : Cont) (h0 : ∀ cap, K (.sl (σ.length + 0) (placL n).length 0 (placL n).length cap) (σ ++ [outB (placL n)])) : ACall Try.prog W0 46 [I n] σ K := by
  rw [← plain_place] at h0
  refine ACall.frame (K0 := fun v σ' => ∃ cap, v = .sl 0 (plainL n).length 0 (plainL n).length cap ∧ σ' = [outB (plainL n)]) rfl (fun W1 _ => c_l8Plain n hn _ fun cap => ⟨cap, rfl, rfl⟩) ?_
  rintro v σ' ⟨cap, rfl, rfl⟩
  rw [sh_out1]; exact h0 cap
theorem place_len (n : Nat) : (placL n).length = n := by unfold placL; rw [List.length_map, List.length_range]
theorem perms_sub : ∀ (n : Nat) (l r : List Int), r ∈ perms n l → ∀ k ∈ r, k ∈ l
  | 0, l, r, h, k, hk => by
    rw [perms, List.mem_singleton] at h; subst h; cases hk
  | n + 1, l, r, h, k, hk => by
    rw [perms, List.mem_flatMap] at h
    obtain ⟨i, hi, h⟩ := h
    obtain ⟨r', hr', rfl⟩ := List.mem_map.1 h
    have hil := List.mem_range.1 hi
    rcases List.mem_cons.1 hk with rfl | hk
    · rw [List.getD_eq_getElem?_getD, List.getElem?_eq_getElem hil]; exact List.getElem_mem hil
    · exact List.mem_of_mem_eraseIdx (perms_sub n _ r' hr' k hk)
theorem perms_inR {n m : Nat} {r : List Int} (h : r ∈ perms m (placL n)) : inR n r := fun k hk => by
  have h2 := perms_sub _ _ _ h k hk
  obtain ⟨j, hj, rfl⟩ := List.mem_map.1 h2
  have := List.mem_range.1 hj
  omega
/-- whether an order gives the picture -/
def rightQ (p : List Int) (xs : List (List Int)) (r : List Int) : Bool := decide (picY (ordL xs r) = p)
def rightsL (p : List Int) (xs : List (List Int)) : List (List Int) := (perms xs.length (placL xs.length)).filter (rightQ p xs)
theorem c_l8Right (p : List Int) (hq : p.length = 36) (a : AV) (xs : List (List Int)) (ha : Sli W0 [] 9 enI a xs) (hx : ∀ x ∈ xs, x.length = 9) (hall : xs.all pOk = true) (hl : xs.length ≤ 6) (K : Cont) (h0 : ∀ S x, NestL S 0 x (rightsL p xs) → K x S) : ACall Try.prog W0 32 [Pi p, a] [] K := by
  refine by32 (Nat.le_of_ble_eq_true rfl) ?_
  obtain ⟨o, m, cap, rfl, hm, hcap, hmax, hf⟩ := sli_form ha
  subst hm
  have hpl := place_len xs.length
  have hrow := perms_row xs.length (placL xs.length) hpl
  have hP720 : (perms xs.length (placL xs.length)).length ≤ 720 := by rw [perms_len _ _ hpl]; exact fac_le hl
  have hin := fun r h => perms_inR (n := xs.length) (m := xs.length) (r := r) h
  unfold rightsL at h0
  have hL := fun (a : AV) (σ : List Blk) => l8_lift (σ := σ) (W0 := W0) (c_l8Orders xs.length hl) a (placL xs.length)
  have hPl := fun (σ : List Blk) => d_l8Plain (W0 := W0) (σ := σ) xs.length (by omega)
  generalize perms xs.length (placL xs.length) = P at hrow hP720 hin hL h0
  generalize placL xs.length = pl at hL hPl hpl
  repeat' ((conv => whnf); first | (refine Exists.intro ([] : List Nat) ?_) | (refine And.intro rfl ?_) | (refine And.intro (by decide +kernel) ?_) | (refine And.intro trivial ?_) | (refine hPl _ (h0 := fun cap1 => ?_) ..) | (refine hL (ha := sli_ints rfl) (hl := hpl) (h0 := fun S2 b2 v2 c2 B2 f0 f1 f2 f3 f4 f5 hk => ?_) ..) | (refine Exists.intro _ (And.intro rfl (And.intro rfl (And.intro (Nat.le_of_ble_eq_true rfl) ?_)))) | (refine Exists.intro _ (And.intro rfl (And.intro rfl (And.intro rfl (And.intro (Nat.le_of_ble_eq_true rfl) ?_))))) | (refine And.intro (Exists.intro _ (And.intro rfl rfl)) ?_) | (exact fun hW => absurd hW (by decide +kernel)) | (intro hW; (try simp only [Bool.not_true, Bool.not_false, Bool.not_eq_true', Bool.not_eq_false', decide_eq_true_eq, decide_eq_false_iff_not, reduceCtorEq, Bool.true_eq_false, Bool.false_eq_true, mk_size, List.size_toArray, ByteArray.size_append, ByteArray.size_extract, List.length_cons, List.length_nil, ba_get, ba_empty, Int.toNat_natCast] at hW)) | (refine And.intro (?_ : _ → _) (?_ : _ → _)) | (refine FinR.drop 0 (Nat.zero_le _) (Closed.zero _) rfl ?_) | (refine FinR.keep ?_) | (refine And.intro (det3_agg rfl) ?_) | (refine fL_mk ?_) | (refine And.intro (by (try simp only [mk_size, List.size_toArray, ByteArray.size_append, ByteArray.size_extract, List.length_cons, List.length_nil]); omega) ?_) | (refine And.intro (by (try simp only [mk_size, List.size_toArray, ByteArray.size_append, ByteArray.size_extract, List.length_cons, List.length_nil, wrap64_eq]); omega) ?_) | fail)
  all_goals first | (exfalso; omega) | skip
  refine LoopR.live (fun x : OX => [(1, .lit (.slice o xs.length cap)), (2, .ptr 0 0 0), (5, .sl 1 x.v 0 ((P.take x.i).filter (rightQ p xs)).length x.cp), (6, .sl b2 v2 0 P.length c2), (7, I x.i)]) (fun x => x.S) (fun x => x.i ≤ P.length ∧ x.S[0]? = some (bQ p 40) ∧ x.S[b2]? = some B2 ∧ Nest x.S B2.cells P ∧ ∃ B, x.S[1]? = some B ∧ B.ver = x.v ∧ B.row = true ∧ B.e = 43 ∧ B.esz = 1 ∧ Nest x.S B.cells ((P.take x.i).filter (rightQ p xs))) (fun x => P.length - x.i) ⟨0, 0, 0, S2⟩ ⟨rfl, rfl, rfl, rfl, rfl, trivial⟩ (.keep rfl) ⟨Nat.zero_le _, hk 0 _ rfl, f0, f5, _, hk 1 _ rfl, rfl, rfl, rfl, rfl, Nest.nil⟩ ?_
  have f2' : 3 ≤ b2 := f2
  clear hk f2
  rintro ⟨k, v', cp', S3⟩ ⟨hk, q0, q2, q5, B', p0, p1, p2, p3, p4, p5⟩
  dsimp only at hk q0 q2 q5 p0 p1 p5
  have ew : IntKind.i64.wrap ((k : Nat) + 1 : Int) = ((k + 1 : Nat) : Int) := wsucc' k (by omega)
  by_cases hlt : k < P.length
  · have hPk : P[k]? = some P[k] := List.getElem?_eq_getElem hlt
    generalize P[k] = r at hPk
    have hr := hrow r (List.mem_of_getElem? hPk)
    have hri := hin r (List.mem_of_getElem? hPk)
    obtain ⟨ak, hak, ho1⟩ := q5.get hPk
    have hb := fun τ => (ho1.keep (S' := S3 ++ τ) fun j B hj => getx1 hj).sli (W0 := W0)
    obtain ⟨b3, v3, c3, B3, rfl, u0, u1, u2, u3, u4⟩ := ho1
    have hlk : k < B2.cells.length := getElem?_lt hak
    have hle : 0 + ((k : Nat) : Int).toNat * 1 + 1 ≤ B2.cells.length := by rw [Int.toNat_natCast]; omega
    have hcell : mkAV false (List.take 1 (List.drop (0 + ((k : Nat) : Int).toNat * 1) B2.cells)) = .sl b3 v3 0 r.length c3 := by
      rw [Int.toNat_natCast, Nat.zero_add, Nat.mul_one, List.drop_eq_getElem_cons hlk]
      have : B2.cells[k] = .sl b3 v3 0 r.length c3 := by rw [List.getElem?_eq_getElem hlk] at hak; exact Option.some.inj hak
      rw [this]; rfl
    have hlen : ((P.take k).filter (rightQ p xs)).length * 1 = B'.cells.length := by rw [p5.1, Nat.mul_one]
    have hfl : ((P.take k).filter (rightQ p xs)).length ≤ 720 := Nat.le_trans (List.length_filter_le _ _) (by rw [List.length_take]; omega)
    have hpl2 := picY_len (ordL xs r)
    have hst : (P.take (k + 1)).filter (rightQ p xs) = (P.take k).filter (rightQ p xs) ++ if rightQ p xs r then [r] else [] := by
      rw [take_snoc hPk, List.filter_append, List.filter_cons, List.filter_nil]
    have hcall := fun (τ : List Blk) (K : Cont) (h : K (Pi (picY (ordL xs r))) (S3 ++ τ)) => d_l8All (W0 := W0) (σ := S3 ++ τ) (.lit (.slice o xs.length cap)) (.sl b3 v3 0 r.length c3) xs r (sli_up ha) (hb τ) hx hall (by omega) hri (by omega) K h
    have hQ : rightQ p xs r = decide (picY (ordL xs r) = p) := rfl
    generalize picY (ordL xs r) = A at hpl2 hcall hQ
    clear hb
    repeat' ((conv => whnf); first | (rw [ew]) | (refine Exists.intro (bQ p 40) (And.intro q0 (And.intro rfl (And.intro (pic_le hq rfl) ?_))); rw [show (bQ p 40).cells = p.map I from rfl, pic_ld hq _ rfl]) | (rw [lits_I, lits_I]) | (rw [eqC36 hpl2 hq]) | (refine Exists.intro _ (And.intro q2 (And.intro f1 (And.intro hle ?_))); rw [hcell]) | (refine Exists.intro ([] : List Nat) ?_) | (refine And.intro rfl ?_) | (refine And.intro (by decide +kernel) ?_) | (refine And.intro trivial ?_) | (refine Exists.intro _ (And.intro (fun τ => callW_fn (hcall τ _ (And.intro rfl rfl))) ?_)) | (refine Exists.intro _ (And.intro p0 (And.intro p1 (And.intro rfl (And.intro p2 (And.intro p3 (And.intro p4 (And.intro (by decide) (And.intro hlen (And.intro rfl (And.intro (by show ((P.take k).filter (rightQ p xs)).length + 1 ≤ maxLen; unfold maxLen; omega) (And.intro (by show (((P.take k).filter (rightQ p xs)).length + 1) * 24 ≤ 140737488355328; omega) (fun cap3 hcap3 hcap4 => ?_))))))))))))) | (refine And.intro ⟨_, q2, f1⟩ ?_) | (refine Exists.intro _ (And.intro rfl (And.intro rfl (And.intro (Nat.le_of_ble_eq_true rfl) ?_)))) | (refine Exists.intro _ (And.intro rfl (And.intro rfl (And.intro rfl (And.intro (Nat.le_of_ble_eq_true rfl) ?_))))) | (refine And.intro (Exists.intro _ (And.intro rfl rfl)) ?_) | (exact fun hW => absurd hW (by decide +kernel)) | (intro hW; (try simp only [Bool.not_true, Bool.not_false, Bool.not_eq_true', Bool.not_eq_false', decide_eq_true_eq, decide_eq_false_iff_not, reduceCtorEq, Bool.true_eq_false, Bool.false_eq_true, mk_size, List.size_toArray, ByteArray.size_append, ByteArray.size_extract, List.length_cons, List.length_nil, ba_get, ba_empty, Int.toNat_natCast] at hW)) | (refine And.intro (?_ : _ → _) (?_ : _ → _)) | (refine FinR.drop 0 (Nat.zero_le _) (Closed.zero _) rfl ?_) | (refine FinR.keep ?_) | (refine And.intro (det3_agg rfl) ?_) | (refine fL_mk ?_) | (refine And.intro (by (try simp only [mk_size, List.size_toArray, ByteArray.size_append, ByteArray.size_extract, List.length_cons, List.length_nil]); omega) ?_) | (refine And.intro (by (try simp only [mk_size, List.size_toArray, ByteArray.size_append, ByteArray.size_extract, List.length_cons, List.length_nil, wrap64_eq]); omega) ?_) | fail)
    all_goals first | (exfalso; omega) | skip
    all_goals first | (exfalso; omega) | skip
    · have hT : rightQ p xs r = true := hQ.trans hW
      rw [hT, if_pos rfl] at hst
      have hne : 1 ≠ b2 := by omega
      refine Again.go ⟨k + 1, v' + 1, _, _⟩ ⟨rfl, rfl, congrArg (fun z => AV.sl 1 (v' + 1) 0 z _) (by rw [hst, List.length_append]; rfl), rfl, rfl, trivial⟩ (.keep rfl) ⟨by show k + 1 ≤ P.length; omega, getneO q0 (by decide), getneO q2 hne, q5.keep0 p0 (by rw [p3]; decide) (fun j B hj hB => getneO hB (Ne.symm hj)), _, getsO p0, congrArg (· + 1) p1, p2, p3, p4, ?_⟩ (by show P.length - (k + 1) < P.length - k; omega)
      show Nest _ _ ((P.take (k + 1)).filter (rightQ p xs))
      rw [hst]
      exact (p5.keep0 p0 (by rw [p3]; decide) (fun j B hj hB => getneO hB (Ne.symm hj))).snoc ⟨b3, v3, c3, B3, rfl, getneO u0 (fun e => by subst e; rw [p0] at u0; cases u0; rw [p3] at u3; cases u3), u1, u2, u3, u4⟩
    · have hT : rightQ p xs r = false := hQ.trans hW
      rw [hT, if_neg (by decide), List.append_nil] at hst
      exact Again.go ⟨k + 1, v', cp', S3⟩ ⟨rfl, rfl, congrArg (fun z => AV.sl 1 v' 0 z _) (by rw [hst]), rfl, rfl, trivial⟩ (.keep rfl) ⟨by show k + 1 ≤ P.length; omega, q0, q2, q5, B', p0, p1, p2, p3, p4, by show Nest S3 B'.cells ((P.take (k + 1)).filter (rightQ p xs)); rw [hst]; exact p5⟩ (by show P.length - (k + 1) < P.length - k; omega)
  · obtain rfl : k = P.length := by omega
    have hz : P.take P.length = P := List.take_length
    have h0' : K (.sl 1 v' 0 ((P.take P.length).filter (rightQ p xs)).length cp') S3 := h0 _ _ ⟨1, v', cp', B', by rw [hz], p0, p1, Nat.zero_le _, p3, p4, by rw [hz] at p5; exact p5⟩
    repeat' ((conv => whnf); first | (refine Exists.intro ([] : List Nat) ?_) | (refine And.intro rfl ?_) | (refine And.intro (by decide +kernel) ?_) | (refine And.intro trivial ?_) | (refine And.intro ⟨_, q2, f1⟩ ?_) | (refine Exists.intro _ (And.intro rfl (And.intro rfl (And.intro (Nat.le_of_ble_eq_true rfl) ?_)))) | (refine Exists.intro _ (And.intro rfl (And.intro rfl (And.intro rfl (And.intro (Nat.le_of_ble_eq_true rfl) ?_))))) | (refine And.intro (Exists.intro _ (And.intro rfl rfl)) ?_) | (exact fun hW => absurd hW (by decide +kernel)) | (intro hW; (try simp only [Bool.not_true, Bool.not_false, Bool.not_eq_true', Bool.not_eq_false', decide_eq_true_eq, decide_eq_false_iff_not, reduceCtorEq, Bool.true_eq_false, Bool.false_eq_true, mk_size, List.size_toArray, ByteArray.size_append, ByteArray.size_extract, List.length_cons, List.length_nil, ba_get, ba_empty, Int.toNat_natCast] at hW)) | (refine And.intro (?_ : _ → _) (?_ : _ → _)) | (refine FinR.drop 0 (Nat.zero_le _) (Closed.zero _) rfl ?_) | (refine FinR.keep ?_) | (refine And.intro (det3_agg rfl) ?_) | (refine fL_mk ?_) | (refine And.intro (by (try simp only [mk_size, List.size_toArray, ByteArray.size_append, ByteArray.size_extract, List.length_cons, List.length_nil]); omega) ?_) | (refine And.intro (by (try simp only [mk_size, List.size_toArray, ByteArray.size_append, ByteArray.size_extract, List.length_cons, List.length_nil, wrap64_eq]); omega) ?_) | fail)
    skip
    all_goals first | (exfalso; omega) | exact FinR.keep h0' | exact h0'
end Go.Proofs.Ytbbmlnaekefaaaa
end

section
/- Orders: the reference's CountOrders and FirstOrder. -/
set_option linter.unusedVariables false
set_option linter.unusedSimpArgs false
set_option maxRecDepth 100000
set_option maxHeartbeats 4000000
namespace Go.Proofs.Ytbbmlnaekefaaaa
open Go Go.RowKit Go.Proofs.Ytbbmlnaekefaaaa.Abs
variable {W0 : World} {σ : List Blk}
theorem d_l8Right (p : List Int) (hq : p.length = 36) (a : AV) (xs : List (List Int)) (ha : Sli W0 σ 9 enI a xs) (hx : ∀ x ∈ xs, x.length = 9) (hall : xs.all pOk = true) (hl : xs.length ≤ 6) (L : List (List Int)) (hL : rightsL p xs = L) (K : Cont) (h0 : ∀ S b v cap B, S[b]? = some B → B.ver = v → σ.length ≤ b → B.e = 43 → B.esz = 1 → Nest S B.cells L → (∀ (j : Nat) (B : Blk), σ[j]? = some B → S[j]? = some B) → K (.sl b v 0 L.length cap) S) : ACall Try.prog W0 32 [Pi p, a] σ K := by
  subst hL
  exact lift_PS1 (ι := { p' : AV × List Blk // NestL p'.2 0 p'.1 (rightsL p xs) }) (fun p => p.1.1) (fun p => p.1.2) (by kernel_rfl) (pureI p) ha
    (fun W1 a' h K hK => c_l8Right p hq a' xs h hx hall hl K fun S x hx => hK ⟨(x, S), hx⟩) K (fun p => by
      obtain ⟨b, v, cap, B, h1, h2, h3, h4, h5, h6, h7⟩ := p.2.sh (T := σ)
      rw [h1]
      exact h0 _ b v cap B h2 h3 h4 h5 h6 h7 (fun j B hj => getx1 hj))
theorem c_sCountT (p : List Int) (hq : p.length = 36) (a : AV) (xs : List (List Int)) (ha : Sli W0 [] 9 enI a xs) (hx : ∀ x ∈ xs, x.length = 9) (hpic : picB p = true) (hlb : listB xs = true) (K : Cont) (h0 : K (.tup [I (rightsL p xs).length, Bo true]) []) : ACall Try.prog W0 15 [Pi p, a] [] K := by
  obtain ⟨hl, hall⟩ := listB_iff.1 hlb
  obtain ⟨va, rfl⟩ := sli_lit ha
  refine by15 (Nat.le_of_ble_eq_true rfl) ?_
  generalize hL : rightsL p xs = L at h0
  repeat' ((conv => whnf); first | (refine Exists.intro (bQ p 40) (And.intro rfl (And.intro rfl (And.intro (pic_le hq rfl) ?_))); rw [show (bQ p 40).cells = p.map I from rfl, pic_ld hq _ rfl]) | (refine Exists.intro ([] : List Nat) ?_) | (refine And.intro rfl ?_) | (refine And.intro (by decide +kernel) ?_) | (refine And.intro trivial ?_) | (refine d_l8Picture (hq := hq) (h0 := ?_) ..; rw [hpic]) | (refine d_l8List (ha := sli_up ha) (hx := hx) (hl := by omega) (h0 := ?_) ..; rw [hlb]) | (refine d_l8Right (hq := hq) (ha := sli_up ha) (hx := hx) (hall := hall) (hl := hl) (hL := hL) (h0 := fun S b v cap B f0 f1 f2 f3 f4 f5 hk => ?_) ..) | (refine And.intro ⟨_, f0, f1⟩ ?_) | (refine Exists.intro _ (And.intro rfl (And.intro rfl (And.intro (Nat.le_of_ble_eq_true rfl) ?_)))) | (refine Exists.intro _ (And.intro rfl (And.intro rfl (And.intro rfl (And.intro (Nat.le_of_ble_eq_true rfl) ?_))))) | (refine And.intro (Exists.intro _ (And.intro rfl rfl)) ?_) | (exact fun hW => absurd hW (by decide +kernel)) | (intro hW; (try simp only [Bool.not_true, Bool.not_false, Bool.not_eq_true', Bool.not_eq_false', decide_eq_true_eq, decide_eq_false_iff_not, reduceCtorEq, Bool.true_eq_false, Bool.false_eq_true, mk_size, List.size_toArray, ByteArray.size_append, ByteArray.size_extract, List.length_cons, List.length_nil, ba_get, ba_empty, Int.toNat_natCast] at hW)) | (refine And.intro (?_ : _ → _) (?_ : _ → _)) | (refine FinR.drop 0 (Nat.zero_le _) (Closed.zero _) rfl ?_) | (refine FinR.keep ?_) | (refine And.intro (det3_agg rfl) ?_) | (refine fL_mk ?_) | (refine And.intro (by (try simp only [mk_size, List.size_toArray, ByteArray.size_append, ByteArray.size_extract, List.length_cons, List.length_nil]); omega) ?_) | (refine And.intro (by (try simp only [mk_size, List.size_toArray, ByteArray.size_append, ByteArray.size_extract, List.length_cons, List.length_nil, wrap64_eq]); omega) ?_) | fail)
  all_goals first | (exfalso; omega) | (exfalso; simp_all; done) | exact h0
theorem c_sCountF (p : List Int) (hq : p.length = 36) (a : AV) (xs : List (List Int)) (ha : Sli W0 [] 9 enI a xs) (hx : ∀ x ∈ xs, x.length = 9) (hl : xs.length ≤ 1048576) (hb : (picB p && listB xs) = false) (K : Cont) (h0 : K (.tup [I 0, Bo false]) []) : ACall Try.prog W0 15 [Pi p, a] [] K := by
  obtain ⟨va, rfl⟩ := sli_lit ha
  refine by15 (Nat.le_of_ble_eq_true rfl) ?_
  cases hpic : picB p with
  | false =>
    repeat' ((conv => whnf); first | (refine Exists.intro (bQ p 40) (And.intro rfl (And.intro rfl (And.intro (pic_le hq rfl) ?_))); rw [show (bQ p 40).cells = p.map I from rfl, pic_ld hq _ rfl]) | (refine Exists.intro ([] : List Nat) ?_) | (refine And.intro rfl ?_) | (refine And.intro (by decide +kernel) ?_) | (refine And.intro trivial ?_) | (refine d_l8Picture (hq := hq) (h0 := ?_) ..; rw [hpic]) | (refine d_l8List (ha := sli_up ha) (hx := hx) (hl := by omega) (h0 := ?_) ..) | (refine Exists.intro _ (And.intro rfl (And.intro rfl (And.intro (Nat.le_of_ble_eq_true rfl) ?_)))) | (refine Exists.intro _ (And.intro rfl (And.intro rfl (And.intro rfl (And.intro (Nat.le_of_ble_eq_true rfl) ?_))))) | (refine And.intro (Exists.intro _ (And.intro rfl rfl)) ?_) | (exact fun hW => absurd hW (by decide +kernel)) | (intro hW; (try simp only [Bool.not_true, Bool.not_false, Bool.not_eq_true', Bool.not_eq_false', decide_eq_true_eq, decide_eq_false_iff_not, reduceCtorEq, Bool.true_eq_false, Bool.false_eq_true, mk_size, List.size_toArray, ByteArray.size_append, ByteArray.size_extract, List.length_cons, List.length_nil, ba_get, ba_empty, Int.toNat_natCast] at hW)) | (refine And.intro (?_ : _ → _) (?_ : _ → _)) | (refine FinR.drop 0 (Nat.zero_le _) (Closed.zero _) rfl ?_) | (refine FinR.keep ?_) | (refine And.intro (det3_agg rfl) ?_) | (refine fL_mk ?_) | (refine And.intro (by (try simp only [mk_size, List.size_toArray, ByteArray.size_append, ByteArray.size_extract, List.length_cons, List.length_nil]); omega) ?_) | (refine And.intro (by (try simp only [mk_size, List.size_toArray, ByteArray.size_append, ByteArray.size_extract, List.length_cons, List.length_nil, wrap64_eq]); omega) ?_) | fail)
    all_goals first | (exfalso; omega) | (exfalso; simp_all; done) | exact h0
  | true =>
    rw [hpic, Bool.true_and] at hb
    repeat' ((conv => whnf); first | (refine Exists.intro (bQ p 40) (And.intro rfl (And.intro rfl (And.intro (pic_le hq rfl) ?_))); rw [show (bQ p 40).cells = p.map I from rfl, pic_ld hq _ rfl]) | (refine Exists.intro ([] : List Nat) ?_) | (refine And.intro rfl ?_) | (refine And.intro (by decide +kernel) ?_) | (refine And.intro trivial ?_) | (refine d_l8Picture (hq := hq) (h0 := ?_) ..; rw [hpic]) | (refine d_l8List (ha := sli_up ha) (hx := hx) (hl := by omega) (h0 := ?_) ..; rw [hb]) | (refine Exists.intro _ (And.intro rfl (And.intro rfl (And.intro (Nat.le_of_ble_eq_true rfl) ?_)))) | (refine Exists.intro _ (And.intro rfl (And.intro rfl (And.intro rfl (And.intro (Nat.le_of_ble_eq_true rfl) ?_))))) | (refine And.intro (Exists.intro _ (And.intro rfl rfl)) ?_) | (exact fun hW => absurd hW (by decide +kernel)) | (intro hW; (try simp only [Bool.not_true, Bool.not_false, Bool.not_eq_true', Bool.not_eq_false', decide_eq_true_eq, decide_eq_false_iff_not, reduceCtorEq, Bool.true_eq_false, Bool.false_eq_true, mk_size, List.size_toArray, ByteArray.size_append, ByteArray.size_extract, List.length_cons, List.length_nil, ba_get, ba_empty, Int.toNat_natCast] at hW)) | (refine And.intro (?_ : _ → _) (?_ : _ → _)) | (refine FinR.drop 0 (Nat.zero_le _) (Closed.zero _) rfl ?_) | (refine FinR.keep ?_) | (refine And.intro (det3_agg rfl) ?_) | (refine fL_mk ?_) | (refine And.intro (by (try simp only [mk_size, List.size_toArray, ByteArray.size_append, ByteArray.size_extract, List.length_cons, List.length_nil]); omega) ?_) | (refine And.intro (by (try simp only [mk_size, List.size_toArray, ByteArray.size_append, ByteArray.size_extract, List.length_cons, List.length_nil, wrap64_eq]); omega) ?_) | fail)
    all_goals first | (exfalso; omega) | (exfalso; simp_all; done) | exact h0
theorem c_sFirstF (p : List Int) (hq : p.length = 36) (a : AV) (xs : List (List Int)) (ha : Sli W0 [] 9 enI a xs) (hx : ∀ x ∈ xs, x.length = 9) (hl : xs.length ≤ 1048576) (hb : (picB p && listB xs) = false) (K : Cont) (h0 : ∀ S x, Ord1 S x [] → K (.tup [x, Bo false]) S) : ACall Try.prog W0 18 [Pi p, a] [] K := by
  obtain ⟨va, rfl⟩ := sli_lit ha
  refine by18 (Nat.le_of_ble_eq_true rfl) ?_
  cases hpic : picB p with
  | false =>
    repeat' ((conv => whnf); first | (refine Exists.intro (bQ p 40) (And.intro rfl (And.intro rfl (And.intro (pic_le hq rfl) ?_))); rw [show (bQ p 40).cells = p.map I from rfl, pic_ld hq _ rfl]) | (refine Exists.intro ([] : List Nat) ?_) | (refine And.intro rfl ?_) | (refine And.intro (by decide +kernel) ?_) | (refine And.intro trivial ?_) | (refine d_l8Picture (hq := hq) (h0 := ?_) ..; rw [hpic]) | (refine d_l8List (ha := sli_up ha) (hx := hx) (hl := by omega) (h0 := ?_) ..) | (refine Exists.intro _ (And.intro rfl (And.intro rfl (And.intro (Nat.le_of_ble_eq_true rfl) ?_)))) | (refine Exists.intro _ (And.intro rfl (And.intro rfl (And.intro rfl (And.intro (Nat.le_of_ble_eq_true rfl) ?_))))) | (refine And.intro (Exists.intro _ (And.intro rfl rfl)) ?_) | (exact fun hW => absurd hW (by decide +kernel)) | (intro hW; (try simp only [Bool.not_true, Bool.not_false, Bool.not_eq_true', Bool.not_eq_false', decide_eq_true_eq, decide_eq_false_iff_not, reduceCtorEq, Bool.true_eq_false, Bool.false_eq_true, mk_size, List.size_toArray, ByteArray.size_append, ByteArray.size_extract, List.length_cons, List.length_nil, ba_get, ba_empty, Int.toNat_natCast] at hW)) | (refine And.intro (?_ : _ → _) (?_ : _ → _)) | (refine FinR.drop 0 (Nat.zero_le _) (Closed.zero _) rfl ?_) | (refine FinR.keep ?_) | (refine And.intro (det3_agg rfl) ?_) | (refine fL_mk ?_) | (refine And.intro (by (try simp only [mk_size, List.size_toArray, ByteArray.size_append, ByteArray.size_extract, List.length_cons, List.length_nil]); omega) ?_) | (refine And.intro (by (try simp only [mk_size, List.size_toArray, ByteArray.size_append, ByteArray.size_extract, List.length_cons, List.length_nil, wrap64_eq]); omega) ?_) | fail)
    all_goals first | (exfalso; omega) | (exfalso; simp_all; done) | exact h0 _ _ ⟨_, _, _, _, rfl, rfl, rfl, rfl, rfl, rfl⟩
  | true =>
    rw [hpic, Bool.true_and] at hb
    repeat' ((conv => whnf); first | (refine Exists.intro (bQ p 40) (And.intro rfl (And.intro rfl (And.intro (pic_le hq rfl) ?_))); rw [show (bQ p 40).cells = p.map I from rfl, pic_ld hq _ rfl]) | (refine Exists.intro ([] : List Nat) ?_) | (refine And.intro rfl ?_) | (refine And.intro (by decide +kernel) ?_) | (refine And.intro trivial ?_) | (refine d_l8Picture (hq := hq) (h0 := ?_) ..; rw [hpic]) | (refine d_l8List (ha := sli_up ha) (hx := hx) (hl := by omega) (h0 := ?_) ..; rw [hb]) | (refine Exists.intro _ (And.intro rfl (And.intro rfl (And.intro (Nat.le_of_ble_eq_true rfl) ?_)))) | (refine Exists.intro _ (And.intro rfl (And.intro rfl (And.intro rfl (And.intro (Nat.le_of_ble_eq_true rfl) ?_))))) | (refine And.intro (Exists.intro _ (And.intro rfl rfl)) ?_) | (exact fun hW => absurd hW (by decide +kernel)) | (intro hW; (try simp only [Bool.not_true, Bool.not_false, Bool.not_eq_true', Bool.not_eq_false', decide_eq_true_eq, decide_eq_false_iff_not, reduceCtorEq, Bool.true_eq_false, Bool.false_eq_true, mk_size, List.size_toArray, ByteArray.size_append, ByteArray.size_extract, List.length_cons, List.length_nil, ba_get, ba_empty, Int.toNat_natCast] at hW)) | (refine And.intro (?_ : _ → _) (?_ : _ → _)) | (refine FinR.drop 0 (Nat.zero_le _) (Closed.zero _) rfl ?_) | (refine FinR.keep ?_) | (refine And.intro (det3_agg rfl) ?_) | (refine fL_mk ?_) | (refine And.intro (by (try simp only [mk_size, List.size_toArray, ByteArray.size_append, ByteArray.size_extract, List.length_cons, List.length_nil]); omega) ?_) | (refine And.intro (by (try simp only [mk_size, List.size_toArray, ByteArray.size_append, ByteArray.size_extract, List.length_cons, List.length_nil, wrap64_eq]); omega) ?_) | fail)
    all_goals first | (exfalso; omega) | (exfalso; simp_all; done) | exact h0 _ _ ⟨_, _, _, _, rfl, rfl, rfl, rfl, rfl, rfl⟩
theorem cell_le0 {C : List AV} {a : AV} (h : C[0]? = some a) : 0 + Int.toNat 0 * 1 + 1 ≤ C.length := getElem?_lt h
theorem cell_at0 {C : List AV} {a : AV} (h : C[0]? = some a) : mkAV false (List.take 1 (List.drop (0 + Int.toNat 0 * 1) C)) = a := by
  cases C with
  | nil => cases h
  | cons x C => cases h; rfl
/-- the first right order and whether there is one -/
def firstL (L : List (List Int)) : List Int := L.headD []
def someL (L : List (List Int)) : Bool := match L with | [] => false | _ :: _ => true
theorem c_sFirstT (p : List Int) (hq : p.length = 36) (a : AV) (xs : List (List Int)) (ha : Sli W0 [] 9 enI a xs) (hx : ∀ x ∈ xs, x.length = 9) (hpic : picB p = true) (hlb : listB xs = true) (K : Cont) (h0 : ∀ S x, Ord1 S x (firstL (rightsL p xs)) → K (.tup [x, Bo (someL (rightsL p xs))]) S) : ACall Try.prog W0 18 [Pi p, a] [] K := by
  obtain ⟨hl, hall⟩ := listB_iff.1 hlb
  obtain ⟨va, rfl⟩ := sli_lit ha
  refine by18 (Nat.le_of_ble_eq_true rfl) ?_
  generalize hL : rightsL p xs = L at h0
  cases L with
  | nil =>
    repeat' ((conv => whnf); first | (refine Exists.intro (bQ p 40) (And.intro rfl (And.intro rfl (And.intro (pic_le hq rfl) ?_))); rw [show (bQ p 40).cells = p.map I from rfl, pic_ld hq _ rfl]) | (refine Exists.intro ([] : List Nat) ?_) | (refine And.intro rfl ?_) | (refine And.intro (by decide +kernel) ?_) | (refine And.intro trivial ?_) | (refine d_l8Picture (hq := hq) (h0 := ?_) ..; rw [hpic]) | (refine d_l8List (ha := sli_up ha) (hx := hx) (hl := by omega) (h0 := ?_) ..; rw [hlb]) | (refine d_l8Right (hq := hq) (ha := sli_up ha) (hx := hx) (hall := hall) (hl := hl) (hL := hL) (h0 := fun S b v cap B f0 f1 f2 f3 f4 f5 hk => ?_) ..) | (refine And.intro ⟨_, f0, f1⟩ ?_) | (refine fS_mk ?_) | (refine Exists.intro _ (And.intro rfl (And.intro rfl (And.intro (Nat.le_of_ble_eq_true rfl) ?_)))) | (refine Exists.intro _ (And.intro rfl (And.intro rfl (And.intro rfl (And.intro (Nat.le_of_ble_eq_true rfl) ?_))))) | (refine And.intro (Exists.intro _ (And.intro rfl rfl)) ?_) | (exact fun hW => absurd hW (by decide +kernel)) | (intro hW; (try simp only [Bool.not_true, Bool.not_false, Bool.not_eq_true', Bool.not_eq_false', decide_eq_true_eq, decide_eq_false_iff_not, reduceCtorEq, Bool.true_eq_false, Bool.false_eq_true, mk_size, List.size_toArray, ByteArray.size_append, ByteArray.size_extract, List.length_cons, List.length_nil, ba_get, ba_empty, Int.toNat_natCast] at hW)) | (refine And.intro (?_ : _ → _) (?_ : _ → _)) | (refine FinR.drop 0 (Nat.zero_le _) (Closed.zero _) rfl ?_) | (refine FinR.keep ?_) | (refine And.intro (det3_agg rfl) ?_) | (refine fL_mk ?_) | (refine And.intro (by (try simp only [mk_size, List.size_toArray, ByteArray.size_append, ByteArray.size_extract, List.length_cons, List.length_nil]); omega) ?_) | (refine And.intro (by (try simp only [mk_size, List.size_toArray, ByteArray.size_append, ByteArray.size_extract, List.length_cons, List.length_nil, wrap64_eq]); omega) ?_) | fail)
    all_goals first | (exfalso; omega) | (exfalso; simp_all; done) | skip
    exact h0 _ _ ⟨_, _, _, _, rfl, getl, rfl, rfl, rfl, rfl⟩
  | cons r L =>
    repeat' ((conv => whnf); first | (refine Exists.intro (bQ p 40) (And.intro rfl (And.intro rfl (And.intro (pic_le hq rfl) ?_))); rw [show (bQ p 40).cells = p.map I from rfl, pic_ld hq _ rfl]) | (refine Exists.intro ([] : List Nat) ?_) | (refine And.intro rfl ?_) | (refine And.intro (by decide +kernel) ?_) | (refine And.intro trivial ?_) | (refine d_l8Picture (hq := hq) (h0 := ?_) ..; rw [hpic]) | (refine d_l8List (ha := sli_up ha) (hx := hx) (hl := by omega) (h0 := ?_) ..; rw [hlb]) | (refine d_l8Right (hq := hq) (ha := sli_up ha) (hx := hx) (hall := hall) (hl := hl) (hL := hL) (h0 := fun S b v cap B f0 f1 f2 f3 f4 f5 hk => ?_) ..) | (refine And.intro ⟨_, f0, f1⟩ ?_) | (refine fS_mk ?_) | (have q := f5; obtain ⟨ak, hak, b3, v3, c3, B3, rfl, u0, u1, u2, u3, u4⟩ := q.get (i := 0) (l := r) rfl; refine Exists.intro B (And.intro f0 (And.intro f1 (And.intro (cell_le0 hak) ?_))); rw [cell_at0 hak]) | (refine Exists.intro _ (And.intro rfl (And.intro rfl (And.intro (Nat.le_of_ble_eq_true rfl) ?_)))) | (refine Exists.intro _ (And.intro rfl (And.intro rfl (And.intro rfl (And.intro (Nat.le_of_ble_eq_true rfl) ?_))))) | (refine And.intro (Exists.intro _ (And.intro rfl rfl)) ?_) | (exact fun hW => absurd hW (by decide +kernel)) | (intro hW; (try simp only [Bool.not_true, Bool.not_false, Bool.not_eq_true', Bool.not_eq_false', decide_eq_true_eq, decide_eq_false_iff_not, reduceCtorEq, Bool.true_eq_false, Bool.false_eq_true, mk_size, List.size_toArray, ByteArray.size_append, ByteArray.size_extract, List.length_cons, List.length_nil, ba_get, ba_empty, Int.toNat_natCast] at hW)) | (refine And.intro (?_ : _ → _) (?_ : _ → _)) | (refine FinR.drop 0 (Nat.zero_le _) (Closed.zero _) rfl ?_) | (refine FinR.keep ?_) | (refine And.intro (det3_agg rfl) ?_) | (refine fL_mk ?_) | (refine And.intro (by (try simp only [mk_size, List.size_toArray, ByteArray.size_append, ByteArray.size_extract, List.length_cons, List.length_nil]); omega) ?_) | (refine And.intro (by (try simp only [mk_size, List.size_toArray, ByteArray.size_append, ByteArray.size_extract, List.length_cons, List.length_nil, wrap64_eq]); omega) ?_) | fail)
    all_goals first | (exfalso; omega) | (exfalso; simp_all; done) | skip
    exact h0 _ _ ⟨b3, v3, c3, B3, rfl, u0, u1, u2, u3, u4⟩
end Go.Proofs.Ytbbmlnaekefaaaa
end

section
/- Orders: the program's closure that adds right orders. -/
set_option linter.unusedVariables false
set_option linter.unusedSimpArgs false
set_option maxRecDepth 100000
set_option maxHeartbeats 4000000
namespace Go.Proofs.Ytbbmlnaekefaaaa
open Go Go.RowKit Go.Proofs.Ytbbmlnaekefaaaa.Abs
variable {W0 : World} {σ : List Blk}
theorem d_CloneInt (a : AV) (l : List Int) (ho : Ord1 σ a l) (hl : l.length ≤ 1048576) (K : Cont) (h0 : ∀ c', K (.sl σ.length 1 0 l.length c') (σ ++ [⟨l.map I, 1, 3, 1, true, true⟩])) : ACall Try.prog W0 54 [a] σ K := by
  obtain ⟨b, v, cap, B, rfl, u0, u1, u2, u3, u4⟩ := ho
  refine by54 (Nat.le_of_ble_eq_true rfl) ?_
  have hle : 0 + l.length * 1 ≤ B.cells.length := by rw [u1, List.length_map]; omega
  have hct : List.take (l.length * 1) (List.drop 0 B.cells) = l.map I := by rw [u1, List.drop_zero, Nat.mul_one, ← List.length_map (f := I), List.take_length]
  have hj : (l.map I).length = l.length * 1 := by rw [List.length_map, Nat.mul_one]
  repeat' ((conv => whnf); first | (refine Exists.intro _ (And.intro (getx1 u0) (And.intro u2 (And.intro hle ?_))); rw [hct]) | (refine Exists.intro ([] : List Nat) ?_) | (refine And.intro rfl ?_) | (refine And.intro (by decide +kernel) ?_) | (refine And.intro trivial ?_) | (refine fS_mk ?_) | (refine And.intro ⟨_, u0, u2⟩ ?_) | (refine Exists.intro _ (And.intro getl (And.intro rfl (And.intro rfl (And.intro rfl (And.intro rfl (And.intro rfl (And.intro (by decide) (And.intro rfl (And.intro hj (And.intro (by unfold maxLen; omega) (And.intro (by omega) (fun cap' hcap1 hcap2 => ?_))))))))))))) | (refine Exists.intro _ (And.intro rfl (And.intro rfl (And.intro (Nat.le_of_ble_eq_true rfl) ?_)))) | (refine Exists.intro _ (And.intro rfl (And.intro rfl (And.intro rfl (And.intro (Nat.le_of_ble_eq_true rfl) ?_))))) | (refine And.intro (Exists.intro _ (And.intro rfl rfl)) ?_) | (exact fun hW => absurd hW (by decide +kernel)) | (intro hW; (try simp only [Bool.not_true, Bool.not_false, Bool.not_eq_true', Bool.not_eq_false', decide_eq_true_eq, decide_eq_false_iff_not, reduceCtorEq, Bool.true_eq_false, Bool.false_eq_true, mk_size, List.size_toArray, ByteArray.size_append, ByteArray.size_extract, List.length_cons, List.length_nil, ba_get, ba_empty, Int.toNat_natCast] at hW)) | (refine And.intro (?_ : _ → _) (?_ : _ → _)) | (refine FinR.drop 0 (Nat.zero_le _) (Closed.zero _) rfl ?_) | (refine FinR.keep ?_) | (refine And.intro (det3_agg rfl) ?_) | (refine fL_mk ?_) | (refine And.intro (by (try simp only [mk_size, List.size_toArray, ByteArray.size_append, ByteArray.size_extract, List.length_cons, List.length_nil]); omega) ?_) | (refine And.intro (by (try simp only [mk_size, List.size_toArray, ByteArray.size_append, ByteArray.size_extract, List.length_cons, List.length_nil, wrap64_eq]); omega) ?_) | fail)
  all_goals first | (exfalso; simp_all; done) | skip
  rw [Nat.zero_add l.length, set_last]
  exact h0 cap'
/-! the closure's blocks: 0 the picture, 1 the layers, 2 their variable, 3 the orders, 4 their variable, 5 the closure's variable -/
abbrev capsA : List AV := [.ptr 2 0 0, .ptr 0 0 0, .ptr 4 0 0, .ptr 5 0 0]
structure AddS (S : List Blk) (p : List Int) (xs : List (List Int)) (cl : Nat) (L : List (List Int)) (ov cp : Nat) (B : Blk) : Prop where
  h0 : S[0]? = some (bQ p 40)
  h1 : S[1]? = some (lyB xs)
  h2 : S[2]? = some ⟨[.sl 1 xs.length 0 xs.length cl], 0, 61, 0, false, false⟩
  h3 : S[3]? = some B
  h4 : S[4]? = some ⟨[.sl 3 ov 0 L.length cp], 0, 71, 0, false, false⟩
  h5 : S[5]? = some ⟨[.fn (.func 50) [] capsA], 0, 90, 0, false, false⟩
  hv : B.ver = ov
  hr : B.row = true
  he : B.e = 43
  hz : B.esz = 1
  hN : Nest S B.cells L
def AddE (S : List Blk) (p : List Int) (xs : List (List Int)) (cl : Nat) (L : List (List Int)) : Prop := ∃ ov cp B, AddS S p xs cl L ov cp B
def keepB (σ S : List Blk) : Prop := ∀ (j : Nat) (B : Blk), j ≠ 3 → j ≠ 4 → σ[j]? = some B → S[j]? = some B
theorem AddS.keep {S S' : List Blk} {p : List Int} {xs : List (List Int)} {cl : Nat} {L : List (List Int)} {ov cp : Nat} {B : Blk} (h : AddS S p xs cl L ov cp B) (hk : ∀ (j : Nat) (B : Blk), S[j]? = some B → S'[j]? = some B) : AddS S' p xs cl L ov cp B :=
  ⟨hk _ _ h.h0, hk _ _ h.h1, hk _ _ h.h2, hk _ _ h.h3, hk _ _ h.h4, hk _ _ h.h5, h.hv, h.hr, h.he, h.hz, h.hN.keep hk⟩
theorem AddE.keep {S S' : List Blk} {p : List Int} {xs : List (List Int)} {cl : Nat} {L : List (List Int)} (h : AddE S p xs cl L) (hk : ∀ (j : Nat) (B : Blk), S[j]? = some B → S'[j]? = some B) : AddE S' p xs cl L := by
  obtain ⟨ov, cp, B, h⟩ := h; exact ⟨ov, cp, B, h.keep hk⟩
theorem keepB.refl (σ : List Blk) : keepB σ σ := fun j B _ _ h => h
theorem keepB.trans {σ S T : List Blk} (h1 : keepB σ S) (h2 : keepB S T) : keepB σ T := fun j B h3 h4 h => h2 j B h3 h4 (h1 j B h3 h4 h)
theorem keepB.of {σ S : List Blk} (hk : ∀ (j : Nat) (B : Blk), σ[j]? = some B → S[j]? = some B) : keepB σ S := fun j B _ _ h => hk j B h
/-- a list of ints stays: neither the orders nor their variable is one -/
theorem Ord1.keepB {S S' : List Blk} {p : List Int} {xs : List (List Int)} {cl : Nat} {L : List (List Int)} {a : AV} {l : List Int} (h : Ord1 S a l) (hs : AddE S p xs cl L) (hk : keepB S S') : Ord1 S' a l := by
  obtain ⟨b, v, cap, B, h1, h2, h3, h4, h5, h6⟩ := h
  obtain ⟨ov, cp, B0, hs⟩ := hs
  refine ⟨b, v, cap, B, h1, hk _ _ (fun e => ?_) (fun e => ?_) h2, h3, h4, h5, h6⟩
  · subst e; rw [hs.h3] at h2; cases h2; rw [hs.he] at h5; cases h5
  · subst e; rw [hs.h4] at h2; cases h2; cases h5
/-- the places below i that are not among some -/
def remI (done : List Int) (i : Nat) : List Int := (placL i).filter fun k => !decide (k ∈ done)
theorem remI_succ (done : List Int) (i : Nat) : remI done (i + 1) = remI done i ++ if ((i : Nat) : Int) ∈ done then [] else [((i : Nat) : Int)] := by
  unfold remI placL
  rw [List.range_succ, List.map_append, List.filter_append, List.map_cons, List.map_nil, List.filter_cons, List.filter_nil]
  by_cases h : ((i : Nat) : Int) ∈ done
  · rw [if_pos h, decide_eq_true h]; rfl
  · rw [if_neg h, decide_eq_false h]; rfl
def addI (R : List Int → Bool) (n m : Nat) (done : List Int) (i : Nat) : List (List Int) := (remI done i).flatMap fun k => addL R n m (done ++ [k])
theorem addI_succ (R : List Int → Bool) (n m : Nat) (done : List Int) (i : Nat) : addI R n m done (i + 1) = addI R n m done i ++ if ((i : Nat) : Int) ∈ done then [] else addL R n m (done ++ [((i : Nat) : Int)]) := by
  unfold addI
  rw [remI_succ, List.flatMap_append]
  by_cases h : ((i : Nat) : Int) ∈ done
  · rw [if_pos h, if_pos h]; rfl
  · rw [if_neg h, if_neg h, List.flatMap_cons, List.flatMap_nil, List.append_nil]
theorem addI_le (R : List Int → Bool) (n m : Nat) (done : List Int) {i : Nat} : ∀ {j : Nat}, i ≤ j → (addI R n m done i).length ≤ (addI R n m done j).length
  | 0, h => by rw [Nat.le_zero.1 h]; exact Nat.le_refl _
  | j + 1, h => by
    by_cases e : i = j + 1
    · rw [e]; exact Nat.le_refl _
    · rw [addI_succ, List.length_append]
      have := addI_le R n m done (i := i) (j := j) (by omega)
      omega
theorem mem_rem {n : Nat} {done : List Int} {i : Nat} (hi : i < n) (h : ((i : Nat) : Int) ∉ done) : ((i : Nat) : Int) ∈ remL n done := by
  unfold remL
  rw [List.mem_filter]
  refine ⟨List.mem_map.2 ⟨i, List.mem_range.2 hi, rfl⟩, by rw [decide_eq_false h]; rfl⟩
theorem filter_ne_len : ∀ {l : List Int} {k : Int}, l.Nodup → k ∈ l → (l.filter fun x => !decide (x = k)).length + 1 = l.length
  | x :: l, k, hd, hm => by
    have hd2 := List.nodup_cons.1 hd
    rw [List.filter_cons]
    by_cases e : x = k
    · subst e
      rw [if_neg (by simp), List.length_cons]
      congr 2
      rw [List.filter_eq_self]
      intro y hy
      have : y ≠ x := fun e => hd2.1 (e ▸ hy)
      simp [this]
    · rw [if_pos (by simp [e]), List.length_cons, List.length_cons]
      rw [filter_ne_len hd2.2 (by rcases List.mem_cons.1 hm with h | h; exact absurd h.symm e; exact h)]
theorem rem_len {n m : Nat} {done : List Int} {k : Int} (h : (remL n done).length = m + 1) (hk : k ∈ remL n done) : (remL n (done ++ [k])).length = m := by
  have := filter_ne_len (rem_nodup n done) hk
  rw [rem_snoc]; omega
theorem rem_in {n : Nat} {done : List Int} {k : Int} (hk : k ∈ remL n done) : 0 ≤ k ∧ k < (n : Int) := by
  unfold remL at hk
  obtain ⟨j, hj, rfl⟩ := List.mem_map.1 (List.mem_filter.1 hk).1
  have := List.mem_range.1 hj
  omega
structure LX where
  i : Nat
  S : List Blk
/-- the closure's loop -/
theorem add_loop (b0 : Nat) (S0 : List Blk) (p : List Int) (xs : List (List Int)) (cl m : Nat) (a : AV) (done : List Int) (L : List (List Int)) (hl : xs.length ≤ 6) (hd : done.length ≤ 6) (hS : AddE S0 p xs cl L) (ha : Ord1 S0 a done) (hb : b0 ≤ S0.length)
    (hM : (L ++ addI (rightQ p xs) xs.length m done xs.length).length ≤ 1000)
    (ih : ∀ (S : List Blk) (a' : AV) (k : Int) (L' : List (List Int)), k ∈ remL xs.length done → AddE S p xs cl L' → Ord1 S a' (done ++ [k]) → (L' ++ addL (rightQ p xs) xs.length m (done ++ [k])).length ≤ 1000 → ∀ K : Cont, (∀ S', AddE S' p xs cl (L' ++ addL (rightQ p xs) xs.length m (done ++ [k])) → keepB S S' → S.length ≤ S'.length → K (.tup []) S') → ACall Try.prog W0 50 (a' :: capsA) S K)
    (K : Cont) (h0 : ∀ S', AddE S' p xs cl (L ++ addI (rightQ p xs) xs.length m done xs.length) → keepB S0 S' → b0 ≤ S'.length → K (.tup []) S') :
    RWs Try.prog W0 b0 (tailN 1 r50) (frL [(0, a), (1, .ptr 2 0 0), (4, .ptr 5 0 0)]) S0 (finP W0 rs50 b0 K) := by
  have ha' := ha
  obtain ⟨ba, va, ca, Ba, rfl, -⟩ := ha'
  refine .base fun hcl => ?_
  generalize hT : addI (rightQ p xs) xs.length m done = T at hM h0
  have hTs : ∀ i, T (i + 1) = T i ++ if ((i : Nat) : Int) ∈ done then [] else addL (rightQ p xs) xs.length m (done ++ [((i : Nat) : Int)]) := fun i => by rw [← hT]; exact addI_succ _ _ _ _ _
  have hTl : ∀ i j, i ≤ j → (T i).length ≤ (T j).length := fun i j h => by rw [← hT]; exact addI_le _ _ _ _ h
  have hT0 : T 0 = [] := by rw [← hT]; rfl
  obtain ⟨ov, cp, B, hA⟩ := hS
  repeat' ((conv => whnf); first | (refine Exists.intro _ (And.intro hA.h2 (And.intro rfl (And.intro (Nat.le_of_ble_eq_true rfl) ?_)))) | (refine Exists.intro ([] : List Nat) ?_) | (refine And.intro rfl ?_) | (refine And.intro (by decide +kernel) ?_) | (refine And.intro trivial ?_) | (refine And.intro ⟨_, hA.h1, rfl⟩ ?_) | (refine Exists.intro _ (And.intro rfl (And.intro rfl (And.intro (Nat.le_of_ble_eq_true rfl) ?_)))) | (refine Exists.intro _ (And.intro rfl (And.intro rfl (And.intro rfl (And.intro (Nat.le_of_ble_eq_true rfl) ?_))))) | (refine And.intro (Exists.intro _ (And.intro rfl rfl)) ?_) | (exact fun hW => absurd hW (by decide +kernel)) | (intro hW; (try simp only [Bool.not_true, Bool.not_false, Bool.not_eq_true', Bool.not_eq_false', decide_eq_true_eq, decide_eq_false_iff_not, reduceCtorEq, Bool.true_eq_false, Bool.false_eq_true, mk_size, List.size_toArray, ByteArray.size_append, ByteArray.size_extract, List.length_cons, List.length_nil, ba_get, ba_empty, Int.toNat_natCast] at hW)) | (refine And.intro (?_ : _ → _) (?_ : _ → _)) | (refine FinR.drop 0 (Nat.zero_le _) (Closed.zero _) rfl ?_) | (refine FinR.keep ?_) | (refine And.intro (det3_agg rfl) ?_) | (refine fL_mk ?_) | (refine And.intro (by (try simp only [mk_size, List.size_toArray, ByteArray.size_append, ByteArray.size_extract, List.length_cons, List.length_nil]); omega) ?_) | (refine And.intro (by (try simp only [mk_size, List.size_toArray, ByteArray.size_append, ByteArray.size_extract, List.length_cons, List.length_nil, wrap64_eq]); omega) ?_) | fail)
  skip
  refine LoopR.live (fun x : LX => [(0, .sl ba va 0 done.length ca), (4, .ptr 5 0 0), (25, I xs.length), (26, I x.i)]) (fun x => x.S) (fun x => x.i ≤ xs.length ∧ AddE x.S p xs cl (L ++ T x.i) ∧ keepB S0 x.S ∧ b0 ≤ x.S.length) (fun x => xs.length - x.i) ⟨0, S0⟩ ⟨rfl, rfl, rfl, rfl, trivial⟩ (.keep rfl) ⟨Nat.zero_le _, by show AddE S0 p xs cl (L ++ T 0); rw [hT0, List.append_nil]; exact ⟨ov, cp, B, hA⟩, keepB.refl _, hb⟩ ?_
  have hE : AddE S0 p xs cl L := ⟨ov, cp, B, hA⟩
  clear hA
  rintro ⟨i, S⟩ ⟨hi, hI, hk, hbl⟩
  dsimp only at hi hI hk hbl
  have ho : Ord1 S (.sl ba va 0 done.length ca) done := ha.keepB hE hk
  have ew : IntKind.i64.wrap ((i : Nat) + 1 : Int) = ((i + 1 : Nat) : Int) := wsucc' i (by omega)
  by_cases hlt : i < xs.length
  · have hTi := hTs i
    have hsl := ho.sli (W0 := W0)
    by_cases hin : ((i : Nat) : Int) ∈ done
    · rw [if_pos hin, List.append_nil] at hTi
      have hdd : decide (((i : Nat) : Int) ∈ done) = true := decide_eq_true hin
      repeat' ((conv => whnf); first | (rw [ew]) | (refine Exists.intro ([] : List Nat) ?_) | (refine And.intro rfl ?_) | (refine And.intro (by decide +kernel) ?_) | (refine And.intro trivial ?_) | (refine d_Contains (ha := hsl) (hl := by omega) (h0 := ?_) ..; rw [hdd]) | (refine Exists.intro _ (And.intro rfl (And.intro rfl (And.intro (Nat.le_of_ble_eq_true rfl) ?_)))) | (refine Exists.intro _ (And.intro rfl (And.intro rfl (And.intro rfl (And.intro (Nat.le_of_ble_eq_true rfl) ?_))))) | (refine And.intro (Exists.intro _ (And.intro rfl rfl)) ?_) | (exact fun hW => absurd hW (by decide +kernel)) | (intro hW; (try simp only [Bool.not_true, Bool.not_false, Bool.not_eq_true', Bool.not_eq_false', decide_eq_true_eq, decide_eq_false_iff_not, reduceCtorEq, Bool.true_eq_false, Bool.false_eq_true, mk_size, List.size_toArray, ByteArray.size_append, ByteArray.size_extract, List.length_cons, List.length_nil, ba_get, ba_empty, Int.toNat_natCast] at hW)) | (refine And.intro (?_ : _ → _) (?_ : _ → _)) | (refine FinR.drop 0 (Nat.zero_le _) (Closed.zero _) rfl ?_) | (refine FinR.keep ?_) | (refine And.intro (det3_agg rfl) ?_) | (refine fL_mk ?_) | (refine And.intro (by (try simp only [mk_size, List.size_toArray, ByteArray.size_append, ByteArray.size_extract, List.length_cons, List.length_nil]); omega) ?_) | (refine And.intro (by (try simp only [mk_size, List.size_toArray, ByteArray.size_append, ByteArray.size_extract, List.length_cons, List.length_nil, wrap64_eq]); omega) ?_) | fail)
      all_goals first | (exfalso; omega) | (exfalso; simp_all; done) | skip
      skip
      exact Again.go ⟨i + 1, S⟩ ⟨rfl, rfl, rfl, rfl, trivial⟩ (.keep rfl) ⟨by show i + 1 ≤ xs.length; omega, by show AddE S p xs cl (L ++ T (i + 1)); rw [hTi]; exact hI, hk, hbl⟩ (by show xs.length - (i + 1) < xs.length - i; omega)
    · rw [if_neg hin] at hTi
      have hdd : decide (((i : Nat) : Int) ∈ done) = false := decide_eq_false hin
      have hcall := fun (S' : List Blk) (a' : AV) (hx : ∀ (j : Nat) (B : Blk), S[j]? = some B → S'[j]? = some B) (hlx : S.length ≤ S'.length) (h2 : Ord1 S' a' (done ++ [((i : Nat) : Int)])) (K : Cont) (hK : ∀ S'', AddE S'' p xs cl (L ++ T (i + 1)) → keepB S0 S'' → b0 ≤ S''.length → K (.tup []) S'') => ih S' a' ((i : Nat) : Int) (L ++ T i) (mem_rem hlt hin) (hI.keep hx) h2 (by rw [List.append_assoc, ← hTi]; have := hTl (i + 1) xs.length hlt; rw [List.length_append] at hM ⊢; omega) K (fun S'' q1 q2 q3 => hK S'' (by rw [hTi, ← List.append_assoc]; exact q1) (hk.trans ((keepB.of hx).trans q2)) (by omega))
      have hg := hI
      obtain ⟨ov, cp, B, hA⟩ := hg
      have h5 := hA.h5
      clear hA hI ih hsl
      have hsl := ho.sli (W0 := W0)
      repeat' ((conv => whnf); first | (rw [ew]) | (refine Exists.intro _ (And.intro h5 (And.intro rfl (And.intro (Nat.le_of_ble_eq_true rfl) ?_)))) | (refine Exists.intro ([] : List Nat) ?_) | (refine And.intro rfl ?_) | (refine And.intro (by decide +kernel) ?_) | (refine And.intro trivial ?_) | (refine d_Contains (ha := hsl) (hl := by omega) (h0 := ?_) ..; rw [hdd]) | (refine Exists.intro _ (And.intro rfl (And.intro rfl (And.intro (Nat.le_of_ble_eq_true rfl) ?_)))) | (refine Exists.intro _ (And.intro rfl (And.intro rfl (And.intro rfl (And.intro (Nat.le_of_ble_eq_true rfl) ?_))))) | (refine And.intro (Exists.intro _ (And.intro rfl rfl)) ?_) | (exact fun hW => absurd hW (by decide +kernel)) | (intro hW; (try simp only [Bool.not_true, Bool.not_false, Bool.not_eq_true', Bool.not_eq_false', decide_eq_true_eq, decide_eq_false_iff_not, reduceCtorEq, Bool.true_eq_false, Bool.false_eq_true, mk_size, List.size_toArray, ByteArray.size_append, ByteArray.size_extract, List.length_cons, List.length_nil, ba_get, ba_empty, Int.toNat_natCast] at hW)) | (refine And.intro (?_ : _ → _) (?_ : _ → _)) | (refine FinR.drop 0 (Nat.zero_le _) (Closed.zero _) rfl ?_) | (refine FinR.keep ?_) | (refine And.intro (det3_agg rfl) ?_) | (refine fL_mk ?_) | (refine And.intro (by (try simp only [mk_size, List.size_toArray, ByteArray.size_append, ByteArray.size_extract, List.length_cons, List.length_nil]); omega) ?_) | (refine And.intro (by (try simp only [mk_size, List.size_toArray, ByteArray.size_append, ByteArray.size_extract, List.length_cons, List.length_nil, wrap64_eq]); omega) ?_) | fail)
      rotate_left
      · exact absurd (show ((i : Nat) : Int) < (xs.length : Nat) by omega) (by assumption)
      refine And.intro ?_ ?_
      all_goals skip
      repeat' ((conv => whnf); first | (rw [ew]) | (refine Exists.intro _ (And.intro h5 (And.intro rfl (And.intro (Nat.le_of_ble_eq_true rfl) ?_)))) | (refine Exists.intro ([] : List Nat) ?_) | (refine And.intro rfl ?_) | (refine And.intro (by decide +kernel) ?_) | (refine And.intro trivial ?_) | (refine hcall _ _ (fun j B hj => getneO (getx1 (getx1 hj)) (by have := getElem?_lt hj; first | omega | (simp only [List.length_append, List.length_cons, List.length_nil]; omega))) (by simp only [List.length_set, List.length_append, List.length_cons, List.length_nil]; omega) ⟨_, _, _, _, congrArg (fun z => AV.sl _ 2 0 z _) (by rw [List.length_append]; rfl), getsO (getx1 getl), by rw [List.map_append]; rfl, rfl, rfl, rfl⟩ _ (fun Sx x1 x2 x3 => ?_)) | (refine hcall _ _ (fun j B hj => getneO (getx1 (getx1 hj)) (by have := getElem?_lt hj; first | omega | (simp only [List.length_append, List.length_cons, List.length_nil]; omega))) (by simp only [List.length_set, List.length_append, List.length_cons, List.length_nil]; omega) ⟨_, _, _, _, congrArg (fun z => AV.sl _ 2 0 z _) (by rw [List.length_append]; rfl), getsO getl, by rw [List.map_append]; rfl, rfl, rfl, rfl⟩ _ (fun Sx x1 x2 x3 => ?_)) | (refine d_Contains (ha := hsl) (hl := by omega) (h0 := ?_) ..; rw [hdd]) | (refine d_CloneInt _ _ ho (by omega) _ (fun c1 => ?_); refine varC_keepO (fun j B hj => getx1 hj) ?_) | (refine d_CloneInt _ _ (ho.keep (fun j B hj => getx1 hj)) (by omega) _ (fun c1 => ?_); refine varC_keepO (fun j B hj => getx1 (getx1 hj)) ?_) | (refine fS_mk (varC_keepO (fun j B hj => getx1 (getx1 hj)) ?_)) | (refine fS_mk (varC_keepO (fun j B hj => getx1 hj) ?_)) | (refine Exists.intro _ (And.intro getl (And.intro rfl (And.intro (Nat.le_of_ble_eq_true rfl) ?_)))) | (refine Exists.intro _ (And.intro (getx1 getl) (And.intro rfl (And.intro (Nat.le_of_ble_eq_true rfl) ?_)))) | (refine Exists.intro _ (And.intro (getx1 getl) (And.intro rfl (And.intro rfl (And.intro rfl (And.intro rfl (And.intro rfl (And.intro (by decide) (And.intro (by rw [List.length_map, Nat.mul_one]) (And.intro rfl (And.intro (by unfold maxLen; omega) (And.intro (by omega) (fun cap2 hcap1 hcap2 => varC_keepO (fun j B hj => getneO (getx1 (getx1 hj)) (by have := getElem?_lt hj; first | omega | (simp only [List.length_append, List.length_cons, List.length_nil]; omega))) ?_))))))))))))) | (refine Exists.intro _ (And.intro getl (And.intro rfl (And.intro rfl (And.intro rfl (And.intro rfl (And.intro rfl (And.intro (by decide) (And.intro (by rw [List.length_map, Nat.mul_one]) (And.intro rfl (And.intro (by unfold maxLen; omega) (And.intro (by omega) (fun cap2 hcap1 hcap2 => varC_keepO (fun j B hj => getneO (getx1 (getx1 hj)) (by have := getElem?_lt hj; first | omega | (simp only [List.length_append, List.length_cons, List.length_nil]; omega))) ?_))))))))))))) | (refine Exists.intro _ (And.intro rfl (And.intro rfl (And.intro (Nat.le_of_ble_eq_true rfl) ?_)))) | (refine Exists.intro _ (And.intro rfl (And.intro rfl (And.intro rfl (And.intro (Nat.le_of_ble_eq_true rfl) ?_))))) | (refine And.intro (Exists.intro _ (And.intro rfl rfl)) ?_) | (exact fun hW => absurd hW (by decide +kernel)) | (intro hW; (try simp only [Bool.not_true, Bool.not_false, Bool.not_eq_true', Bool.not_eq_false', decide_eq_true_eq, decide_eq_false_iff_not, reduceCtorEq, Bool.true_eq_false, Bool.false_eq_true, mk_size, List.size_toArray, ByteArray.size_append, ByteArray.size_extract, List.length_cons, List.length_nil, ba_get, ba_empty, Int.toNat_natCast] at hW)) | (refine And.intro (?_ : _ → _) (?_ : _ → _)) | (refine FinR.drop 0 (Nat.zero_le _) (Closed.zero _) rfl ?_) | (refine FinR.keep ?_) | (refine And.intro (det3_agg rfl) ?_) | (refine fL_mk ?_) | (refine And.intro (by (try simp only [mk_size, List.size_toArray, ByteArray.size_append, ByteArray.size_extract, List.length_cons, List.length_nil]); omega) ?_) | (refine And.intro (by (try simp only [mk_size, List.size_toArray, ByteArray.size_append, ByteArray.size_extract, List.length_cons, List.length_nil, wrap64_eq]); omega) ?_) | fail)
      skip
      all_goals (try refine Again.go (⟨i + 1, Sx⟩ : LX) ⟨rfl, rfl, rfl, rfl, trivial⟩ (.keep rfl) ⟨by show i + 1 ≤ xs.length; omega, x1, x2, x3⟩ (by show xs.length - (i + 1) < xs.length - i; omega))
  · obtain rfl : i = xs.length := by omega
    have h0' := h0 S hI hk hbl
    repeat' ((conv => whnf); first | (refine Exists.intro ([] : List Nat) ?_) | (refine And.intro rfl ?_) | (refine And.intro (by decide +kernel) ?_) | (refine And.intro trivial ?_) | (refine Exists.intro _ (And.intro rfl (And.intro rfl (And.intro (Nat.le_of_ble_eq_true rfl) ?_)))) | (refine Exists.intro _ (And.intro rfl (And.intro rfl (And.intro rfl (And.intro (Nat.le_of_ble_eq_true rfl) ?_))))) | (refine And.intro (Exists.intro _ (And.intro rfl rfl)) ?_) | (exact fun hW => absurd hW (by decide +kernel)) | (intro hW; (try simp only [Bool.not_true, Bool.not_false, Bool.not_eq_true', Bool.not_eq_false', decide_eq_true_eq, decide_eq_false_iff_not, reduceCtorEq, Bool.true_eq_false, Bool.false_eq_true, mk_size, List.size_toArray, ByteArray.size_append, ByteArray.size_extract, List.length_cons, List.length_nil, ba_get, ba_empty, Int.toNat_natCast] at hW)) | (refine And.intro (?_ : _ → _) (?_ : _ → _)) | (refine FinR.drop 0 (Nat.zero_le _) (Closed.zero _) rfl ?_) | (refine FinR.keep ?_) | (refine And.intro (det3_agg rfl) ?_) | (refine fL_mk ?_) | (refine And.intro (by (try simp only [mk_size, List.size_toArray, ByteArray.size_append, ByteArray.size_extract, List.length_cons, List.length_nil]); omega) ?_) | (refine And.intro (by (try simp only [mk_size, List.size_toArray, ByteArray.size_append, ByteArray.size_extract, List.length_cons, List.length_nil, wrap64_eq]); omega) ?_) | fail)
    skip
    all_goals first | (exfalso; omega) | exact FinR.keep h0' | exact h0'
end Go.Proofs.Ytbbmlnaekefaaaa
end

section
/- Orders: the closure's contract. -/
set_option linter.unusedVariables false
set_option linter.unusedSimpArgs false
set_option maxRecDepth 100000
set_option maxHeartbeats 4000000
namespace Go.Proofs.Ytbbmlnaekefaaaa
open Go Go.RowKit Go.Proofs.Ytbbmlnaekefaaaa.Abs
variable {W0 : World} {σ : List Blk}
/-- what the first statement adds -/
def ownA (p : List Int) (xs : List (List Int)) (done : List Int) : List (List Int) := if done.length = xs.length then if rightQ p xs done then [done] else [] else []
theorem add_first (p : List Int) (hq : p.length = 36) (a : AV) (xs : List (List Int)) (hx : ∀ x ∈ xs, x.length = 9) (hall : xs.all pOk = true) (hl : xs.length ≤ 6) (done : List Int) (hd : done.length ≤ 6) (hin : inR xs.length done) (cl : Nat) (L : List (List Int)) (hS : AddE σ p xs cl L) (ha : Ord1 σ a done) (hM : L.length ≤ 1000) (K : Cont)
    (h0 : ∀ S', AddE S' p xs cl (L ++ ownA p xs done) → keepB σ S' → σ.length ≤ S'.length → RWs Try.prog W0 σ.length (tailN 1 r50) (frL [(0, a), (1, .ptr 2 0 0), (4, .ptr 5 0 0)]) S' (finP W0 rs50 σ.length K)) :
    ACall Try.prog W0 50 (a :: capsA) σ K := by
  have ha' := ha
  obtain ⟨ba, va, ca, Ba, rfl, u0, u1, u2, u3, u4⟩ := ha'
  have hS' := hS
  obtain ⟨ov, cp, B, hA⟩ := hS'
  have g0 := hA.h0
  have g1 := hA.h1
  have g2 := hA.h2
  have g3 := hA.h3
  have g4 := hA.h4
  have hgv := hA.hv
  have hgr := hA.hr
  have hge := hA.he
  have hgz := hA.hz
  have hgN := hA.hN
  have hok := ordL_ok hx hall hin
  refine ACall.introS (rs := rs50) mixed Try.func50 (by kernel_rfl) k50 (by kernel_rfl) (Nat.le_of_ble_eq_true rfl) ?_
  show RWs Try.prog W0 σ.length r50 _ σ (finP W0 rs50 σ.length K)
  refine RWs.live 1 (X := List Blk) (fun S => [(0, .sl ba va 0 done.length ca), (1, .ptr 2 0 0), (4, .ptr 5 0 0)]) (fun S => S) (fun S => AddE S p xs cl (L ++ ownA p xs done) ∧ keepB σ S ∧ σ.length ≤ S.length) rfl (fun hcl => ?_) (fun S hS => h0 S hS.1 hS.2.1 hS.2.2)
  clear h0 hS
  have hlen : L.length * 1 = B.cells.length := by rw [hgN.1, Nat.mul_one]
  by_cases he : done.length = xs.length
  · have hde : decide (((done.length : Nat) : Int) = ((xs.length : Nat) : Int)) = true := decide_eq_true (by omega)
    have hOw : ownA p xs done = if rightQ p xs done then [done] else [] := by rw [ownA, if_pos he]
    rw [hOw]
    have hQ : rightQ p xs done = decide (picY (ordL xs done) = p) := rfl
    have hpl2 := picY_len (ordL xs done)
    have hsl := ha.sli (W0 := W0)
    have hly := fun (τ : List Blk) => sli_ly (W0 := W0) (σ := σ ++ τ) (xs := xs) (cap := cl) (b := 1) (getx1 (σ := σ) (τ := τ) g1)
    have hpc := fun (a : AV) (S : List Blk) (h : Sli W0 S 2 enY a (ordL xs done)) (K : Cont) (hK : K (Pi (picY (ordL xs done))) S) => d_picture (W0 := W0) (σ := S) a (ordL xs done) h hok.1 hok.2 (by rw [ordL_len]; omega) K hK
    have hoc := fun (K : Cont) (h0 : ∀ cap, K (.sl (σ.length + 0) (ordL xs done).length 0 (ordL xs done).length cap) (σ ++ [lyB (ordL xs done)])) => d_ordered (W0 := W0) (σ := σ) (.sl 1 xs.length 0 xs.length cl) (.sl ba va 0 done.length ca) xs done (sli_ly g1) hsl (by omega) hin (by omega) K h0
    have hlo := ordL_len xs done
    generalize picY (ordL xs done) = PA at hpl2 hQ hpc
    generalize ordL xs done = OL at hoc hpc hlo hok
    clear hly
    repeat' ((conv => whnf); first | (rw [hde]) | (refine Exists.intro _ (And.intro g2 (And.intro rfl (And.intro (Nat.le_of_ble_eq_true rfl) ?_)))) | (refine Exists.intro (bQ p 40) (And.intro g0 (And.intro rfl (And.intro (pic_le hq rfl) ?_))); rw [show (bQ p 40).cells = p.map I from rfl, pic_ld hq _ rfl]) | (rw [lits_I, lits_I]) | (rw [eqC36 hpl2 hq]) | (refine Exists.intro _ (And.intro (getx1 g4) (And.intro rfl (And.intro (Nat.le_of_ble_eq_true rfl) ?_)))) | (refine Exists.intro ([] : List Nat) ?_) | (refine And.intro rfl ?_) | (refine And.intro (by decide +kernel) ?_) | (refine And.intro trivial ?_) | (refine And.intro ⟨_, u0, u2⟩ ?_) | (refine And.intro ⟨_, g1, rfl⟩ ?_) | (refine hoc _ (fun cap1 => varC_keepO (fun j B hj => getx1 hj) ?_)) | (refine Exists.intro _ (And.intro (callW_fn (hpc _ _ (sli_ly getl) _ (And.intro rfl rfl))) (And.intro trivial ?_))) | (refine Exists.intro _ (And.intro (callW_fn (hpc _ _ (sli_ly getl) _ (And.intro rfl rfl))) ?_)) | (refine Exists.intro _ (And.intro (getx1 g3) (And.intro hgv (And.intro rfl (And.intro hgr (And.intro hge (And.intro hgz (And.intro (by decide) (And.intro hlen (And.intro rfl (And.intro (by unfold maxLen; omega) (And.intro (by omega) (fun cap3 hcap3 hcap4 => ?_))))))))))))) | (refine Exists.intro _ (And.intro (getneO (getx1 g4) (by decide)) (And.intro rfl (And.intro rfl (And.intro (Nat.le_of_ble_eq_true rfl) ?_))))) | (refine fS_mk ?_) | (refine Exists.intro _ (And.intro rfl (And.intro rfl (And.intro (Nat.le_of_ble_eq_true rfl) ?_)))) | (refine Exists.intro _ (And.intro rfl (And.intro rfl (And.intro rfl (And.intro (Nat.le_of_ble_eq_true rfl) ?_))))) | (refine And.intro (Exists.intro _ (And.intro rfl rfl)) ?_) | (exact fun hW => absurd hW (by decide +kernel)) | (intro hW; (try simp only [Bool.not_true, Bool.not_false, Bool.not_eq_true', Bool.not_eq_false', decide_eq_true_eq, decide_eq_false_iff_not, reduceCtorEq, Bool.true_eq_false, Bool.false_eq_true, mk_size, List.size_toArray, ByteArray.size_append, ByteArray.size_extract, List.length_cons, List.length_nil, ba_get, ba_empty, Int.toNat_natCast] at hW)) | (refine And.intro (?_ : _ → _) (?_ : _ → _)) | (refine FinR.drop 0 (Nat.zero_le _) (Closed.zero _) rfl ?_) | (refine FinR.keep ?_) | (refine And.intro (det3_agg rfl) ?_) | (refine fL_mk ?_) | (refine And.intro (by (try simp only [mk_size, List.size_toArray, ByteArray.size_append, ByteArray.size_extract, List.length_cons, List.length_nil]); omega) ?_) | (refine And.intro (by (try simp only [mk_size, List.size_toArray, ByteArray.size_append, ByteArray.size_extract, List.length_cons, List.length_nil, wrap64_eq]); omega) ?_) | fail)
    all_goals first | (exfalso; omega) | (conv => whnf)
    skip
    · have hT : rightQ p xs done = true := hQ.trans hW
      rw [hT]
      have hb3 : 3 ≠ ba := fun e => by subst e; rw [g3] at u0; cases u0; rw [hge] at u3; cases u3
      have hb4 : 4 ≠ ba := fun e => by subst e; rw [g4] at u0; cases u0; cases u3
      refine CutAt.go (((σ ++ [lyB OL]).set 3 ⟨B.cells ++ [AV.sl ba va 0 done.length ca], B.ver + 1, B.e, B.esz, B.row, true⟩).set 4 ⟨[AV.sl 3 (ov + 1) 0 (L.length + 1) cap3], 0, 71, 0, false, false⟩) ?_ ?_ ?_
      · exact ⟨rfl, rfl, rfl, trivial⟩
      · exact .keep rfl
      refine ⟨⟨ov + 1, cap3, _, ⟨getneO (getneO (getx1 g0) (by decide)) (by decide), getneO (getneO (getx1 g1) (by decide)) (by decide), getneO (getneO (getx1 g2) (by decide)) (by decide), getneO (getsO (getx1 g3)) (by decide), (getsO (getneO (getx1 g4) (by decide))).trans (congrArg (fun z => some (⟨[.sl 3 (ov + 1) 0 z cap3], 0, 71, 0, false, false⟩ : Blk)) (by rw [if_pos rfl, List.length_append]; rfl)), getneO (getneO (getx1 hA.h5) (by decide)) (by decide), congrArg (· + 1) hgv, hgr, hge, hgz, ?_⟩⟩, fun j X h3 h4 hj => getneO (getneO (getx1 hj) (Ne.symm h3)) (Ne.symm h4), by simp only [List.length_set, List.length_append]; omega⟩
      rw [if_pos rfl]
      exact (((hgN.keep (S' := σ ++ [lyB OL]) fun j X hj => getx1 hj).keep0 (getx1 g3) (by rw [hge]; decide) (fun j X hj hB => getneO hB (Ne.symm hj))).keep0 (getneO (getx1 g4) (by decide)) (show (71 : Nat) ≠ 3 by decide) (fun j X hj hB => getneO hB (Ne.symm hj))).snoc ⟨ba, va, ca, Ba, rfl, getneO (getneO (getx1 u0) hb3) hb4, u1, u2, u3, u4⟩
    · have hT : rightQ p xs done = false := hQ.trans hW
      rw [hT, if_neg (by decide), List.append_nil]
      exact CutAt.go (σ ++ [lyB OL]) ⟨rfl, rfl, rfl, trivial⟩ (.keep rfl) ⟨⟨ov, cp, B, hA.keep fun j X hj => getx1 hj⟩, keepB.of fun j X hj => getx1 hj, by rw [List.length_append]; omega⟩
  · have hde : decide (((done.length : Nat) : Int) = ((xs.length : Nat) : Int)) = false := decide_eq_false (by omega)
    have hOw : ownA p xs done = [] := by rw [ownA, if_neg he]
    rw [hOw, List.append_nil]
    repeat' ((conv => whnf); first | (rw [hde]) | (refine Exists.intro _ (And.intro g2 (And.intro rfl (And.intro (Nat.le_of_ble_eq_true rfl) ?_)))) | (refine Exists.intro ([] : List Nat) ?_) | (refine And.intro rfl ?_) | (refine And.intro (by decide +kernel) ?_) | (refine And.intro trivial ?_) | (refine And.intro ⟨_, u0, u2⟩ ?_) | (refine And.intro ⟨_, g1, rfl⟩ ?_) | (refine Exists.intro _ (And.intro rfl (And.intro rfl (And.intro (Nat.le_of_ble_eq_true rfl) ?_)))) | (refine Exists.intro _ (And.intro rfl (And.intro rfl (And.intro rfl (And.intro (Nat.le_of_ble_eq_true rfl) ?_))))) | (refine And.intro (Exists.intro _ (And.intro rfl rfl)) ?_) | (exact fun hW => absurd hW (by decide +kernel)) | (intro hW; (try simp only [Bool.not_true, Bool.not_false, Bool.not_eq_true', Bool.not_eq_false', decide_eq_true_eq, decide_eq_false_iff_not, reduceCtorEq, Bool.true_eq_false, Bool.false_eq_true, mk_size, List.size_toArray, ByteArray.size_append, ByteArray.size_extract, List.length_cons, List.length_nil, ba_get, ba_empty, Int.toNat_natCast] at hW)) | (refine And.intro (?_ : _ → _) (?_ : _ → _)) | (refine FinR.drop 0 (Nat.zero_le _) (Closed.zero _) rfl ?_) | (refine FinR.keep ?_) | (refine And.intro (det3_agg rfl) ?_) | (refine fL_mk ?_) | (refine And.intro (by (try simp only [mk_size, List.size_toArray, ByteArray.size_append, ByteArray.size_extract, List.length_cons, List.length_nil]); omega) ?_) | (refine And.intro (by (try simp only [mk_size, List.size_toArray, ByteArray.size_append, ByteArray.size_extract, List.length_cons, List.length_nil, wrap64_eq]); omega) ?_) | fail)
    all_goals first | (exfalso; omega) | (conv => whnf)
    skip
    exact CutAt.go σ ⟨rfl, rfl, rfl, trivial⟩ (.keep rfl) ⟨⟨ov, cp, B, hA⟩, keepB.refl _, Nat.le_refl _⟩
theorem add_call (p : List Int) (hq : p.length = 36) (xs : List (List Int)) (hx : ∀ x ∈ xs, x.length = 9) (hall : xs.all pOk = true) (hl : xs.length ≤ 6) (cl : Nat) : ∀ (m : Nat) (σ : List Blk) (a : AV) (done : List Int) (L : List (List Int)), AddE σ p xs cl L → Ord1 σ a done → inR xs.length done → done.length + m = xs.length → (remL xs.length done).length = m → (L ++ addL (rightQ p xs) xs.length m done).length ≤ 1000 → ∀ K : Cont, (∀ S', AddE S' p xs cl (L ++ addL (rightQ p xs) xs.length m done) → keepB σ S' → σ.length ≤ S'.length → K (.tup []) S') → ACall Try.prog W0 50 (a :: capsA) σ K
  | 0, σ, a, done, L, hS, ha, hin, hn, hr, hM, K, h0 => by
    have hnil : remL xs.length done = [] := List.length_eq_zero_iff.1 hr
    have hI : addI (rightQ p xs) xs.length 0 done xs.length = [] := by
      show (remL xs.length done).flatMap _ = []
      rw [hnil]; rfl
    have hO : addL (rightQ p xs) xs.length 0 done = ownA p xs done := by rw [ownA, if_pos (by omega)]; rfl
    rw [hO] at hM h0
    refine add_first p hq a xs hx hall hl done (by omega) hin cl L hS ha (by rw [List.length_append] at hM; omega) K fun S' h1 h2 h3 => ?_
    refine add_loop σ.length S' p xs cl 0 a done _ hl (by omega) h1 (ha.keepB hS h2) h3 (by rw [hI, List.append_nil]; exact hM) (fun S a' k L' hk => by rw [hnil] at hk; cases hk) K (fun S'' q1 q2 q3 => ?_)
    rw [hI, List.append_nil] at q1
    exact h0 S'' q1 (h2.trans q2) q3
  | m + 1, σ, a, done, L, hS, ha, hin, hn, hr, hM, K, h0 => by
    have hO : ownA p xs done = [] := by rw [ownA, if_neg (by omega)]
    refine add_first p hq a xs hx hall hl done (by omega) hin cl L hS ha (by rw [List.length_append] at hM; omega) K fun S' h1 h2 h3 => ?_
    rw [hO, List.append_nil] at h1
    refine add_loop σ.length S' p xs cl m a done L hl (by omega) h1 (ha.keepB hS h2) h3 hM (fun S a' k L' hk q1 q2 q3 K hK => ?_) K (fun S'' q1 q2 q3 => h0 S'' q1 (h2.trans q2) q3)
    refine add_call p hq xs hx hall hl cl m S a' (done ++ [k]) L' q1 q2 (fun j hj => ?_) (by rw [List.length_append, List.length_cons, List.length_nil]; omega) (rem_len hr hk) q3 K hK
    rcases List.mem_append.1 hj with h | h
    · exact hin j h
    · rw [List.mem_singleton.1 h]; exact rem_in hk
end Go.Proofs.Ytbbmlnaekefaaaa
end

section
/- Orders: the program's CountOrders and FirstOrder. -/
set_option linter.unusedVariables false
set_option linter.unusedSimpArgs false
set_option maxRecDepth 100000
set_option maxHeartbeats 4000000
namespace Go.Proofs.Ytbbmlnaekefaaaa
open Go Go.RowKit Go.Proofs.Ytbbmlnaekefaaaa.Abs
variable {W0 : World} {σ : List Blk}
theorem rem_nil (n : Nat) : (remL n []).length = n := by
  have e : remL n [] = placL n := by unfold remL; rw [List.filter_eq_self]; intro x _; simp
  rw [e, place_len]
theorem rights_le {p : List Int} {xs : List (List Int)} (hl : xs.length ≤ 6) : (rightsL p xs).length ≤ 720 := by
  refine Nat.le_trans (List.length_filter_le _ _) ?_
  rw [perms_len _ _ (place_len xs.length)]; exact fac_le hl
theorem c_rightOrdersT (p : List Int) (hq : p.length = 36) (a : AV) (xs : List (List Int)) (ha : Sli W0 [] 9 enI a xs) (hx : ∀ x ∈ xs, x.length = 9) (hpic : picB p = true) (hlb : listB xs = true) (K : Cont) (h0 : ∀ S x, NestL S 0 x (rightsL p xs) → K (.tup [x, Bo true]) S) : ACall Try.prog W0 34 [Pi p, a] [] K := by
  obtain ⟨hl, hall⟩ := listB_iff.1 hlb
  obtain ⟨va, rfl⟩ := sli_lit ha
  have h6 : decide (xs.length ≤ 6) = true := decide_eq_true hl
  have hE : addL (rightQ p xs) xs.length xs.length [] = rightsL p xs := orders_eq _ _
  have hM : (rightsL p xs).length ≤ 720 := rights_le hl
  have hcall := fun (cl : Nat) (σ : List Blk) (a : AV) (h1 : AddE σ p xs cl []) (h2 : Ord1 σ a []) (K : Cont) (hK : ∀ S', AddE S' p xs cl (rightsL p xs) → K (.tup []) S') => add_call (W0 := W0) p hq xs hx hall hl cl xs.length σ a [] [] h1 h2 (fun k hk => by cases hk) (Nat.zero_add _) (rem_nil _) (by rw [hE, List.nil_append]; omega) K (fun S' q1 _ _ => hK S' (by rw [hE, List.nil_append] at q1; exact q1))
  refine by34 (Nat.le_of_ble_eq_true rfl) ?_
  generalize rightsL p xs = L at h0 hcall hM
  repeat' ((conv => whnf); first | (refine Exists.intro (bQ p 40) (And.intro rfl (And.intro rfl (And.intro (pic_le hq rfl) ?_))); rw [show (bQ p 40).cells = p.map I from rfl, pic_ld hq _ rfl]) | (refine Exists.intro ([] : List Nat) ?_) | (refine And.intro rfl ?_) | (refine And.intro (by decide +kernel) ?_) | (refine And.intro trivial ?_) | (refine d_layersOf (ha := sli_up ha) (hx := hx) (hl := by omega) (h1 := fun hall cl => ?_) (h2 := fun hf => ?_) .. <;> try rw [h6]) | (refine d_IsPicture (hq := hq) (h0 := ?_) ..; rw [hpic]) | (refine hcall cl _ _ ?_ ?_ _ (fun S' q1 => ?_); (exact ⟨0, _, _, ⟨rfl, rfl, rfl, rfl, rfl, rfl, rfl, rfl, rfl, rfl, Nest.nil⟩⟩); (exact ⟨6, _, _, _, rfl, rfl, rfl, rfl, rfl, rfl⟩); obtain ⟨ov, cp, B, hA⟩ := q1) | (refine Exists.intro _ (And.intro hA.h4 (And.intro rfl (And.intro (Nat.le_of_ble_eq_true rfl) ?_)))) | (refine Exists.intro _ (And.intro rfl (And.intro rfl (And.intro (Nat.le_of_ble_eq_true rfl) ?_)))) | (refine Exists.intro _ (And.intro rfl (And.intro rfl (And.intro rfl (And.intro (Nat.le_of_ble_eq_true rfl) ?_))))) | (refine And.intro (Exists.intro _ (And.intro rfl rfl)) ?_) | (exact fun hW => absurd hW (by decide +kernel)) | (intro hW; (try simp only [Bool.not_true, Bool.not_false, Bool.not_eq_true', Bool.not_eq_false', decide_eq_true_eq, decide_eq_false_iff_not, reduceCtorEq, Bool.true_eq_false, Bool.false_eq_true, mk_size, List.size_toArray, ByteArray.size_append, ByteArray.size_extract, List.length_cons, List.length_nil, ba_get, ba_empty, Int.toNat_natCast] at hW)) | (refine And.intro (?_ : _ → _) (?_ : _ → _)) | (refine FinR.drop 0 (Nat.zero_le _) (Closed.zero _) rfl ?_) | (refine FinR.keep ?_) | (refine And.intro (det3_agg rfl) ?_) | (refine fL_mk ?_) | (refine And.intro (by (try simp only [mk_size, List.size_toArray, ByteArray.size_append, ByteArray.size_extract, List.length_cons, List.length_nil]); omega) ?_) | (refine And.intro (by (try simp only [mk_size, List.size_toArray, ByteArray.size_append, ByteArray.size_extract, List.length_cons, List.length_nil, wrap64_eq]); omega) ?_) | fail)
  all_goals first | (exfalso; omega) | (exfalso; simp_all; done) | skip
  skip
  skip
  exact h0 _ _ ⟨3, ov, cp, B, rfl, hA.h3, hA.hv, Nat.zero_le _, hA.he, hA.hz, hA.hN⟩
theorem c_rightOrdersF (p : List Int) (hq : p.length = 36) (a : AV) (xs : List (List Int)) (ha : Sli W0 [] 9 enI a xs) (hx : ∀ x ∈ xs, x.length = 9) (hl : xs.length ≤ 1048576) (hb : (picB p && listB xs) = false) (K : Cont) (h0 : K (.tup [nilA, Bo false]) []) : ACall Try.prog W0 34 [Pi p, a] [] K := by
  obtain ⟨va, rfl⟩ := sli_lit ha
  have h6 : xs.all pOk = true → decide (xs.length ≤ 6) = listB xs := by intro h; rw [listB, h, Bool.and_true]
  refine by34 (Nat.le_of_ble_eq_true rfl) ?_
  cases hpic : picB p <;> cases hlb : listB xs <;> first | (exfalso; simp_all; done) | skip
  all_goals (rw [hlb] at h6)
  · skip
    repeat' ((conv => whnf); first | (refine Exists.intro (bQ p 40) (And.intro rfl (And.intro rfl (And.intro (pic_le hq rfl) ?_))); rw [show (bQ p 40).cells = p.map I from rfl, pic_ld hq _ rfl]) | (refine Exists.intro ([] : List Nat) ?_) | (refine And.intro rfl ?_) | (refine And.intro (by decide +kernel) ?_) | (refine And.intro trivial ?_) | (refine d_layersOf (ha := sli_up ha) (hx := hx) (hl := by omega) (h1 := fun hall cp => ?_) (h2 := fun hf => ?_) .. <;> try rw [h6 hall]) | (refine d_IsPicture (hq := hq) (h0 := ?_) ..; rw [hpic]) | (refine Exists.intro _ (And.intro rfl (And.intro rfl (And.intro (Nat.le_of_ble_eq_true rfl) ?_)))) | (refine Exists.intro _ (And.intro rfl (And.intro rfl (And.intro rfl (And.intro (Nat.le_of_ble_eq_true rfl) ?_))))) | (refine And.intro (Exists.intro _ (And.intro rfl rfl)) ?_) | (exact fun hW => absurd hW (by decide +kernel)) | (intro hW; (try simp only [Bool.not_true, Bool.not_false, Bool.not_eq_true', Bool.not_eq_false', decide_eq_true_eq, decide_eq_false_iff_not, reduceCtorEq, Bool.true_eq_false, Bool.false_eq_true, mk_size, List.size_toArray, ByteArray.size_append, ByteArray.size_extract, List.length_cons, List.length_nil, ba_get, ba_empty, Int.toNat_natCast] at hW)) | (refine And.intro (?_ : _ → _) (?_ : _ → _)) | (refine FinR.drop 0 (Nat.zero_le _) (Closed.zero _) rfl ?_) | (refine FinR.keep ?_) | (refine And.intro (det3_agg rfl) ?_) | (refine fL_mk ?_) | (refine And.intro (by (try simp only [mk_size, List.size_toArray, ByteArray.size_append, ByteArray.size_extract, List.length_cons, List.length_nil]); omega) ?_) | (refine And.intro (by (try simp only [mk_size, List.size_toArray, ByteArray.size_append, ByteArray.size_extract, List.length_cons, List.length_nil, wrap64_eq]); omega) ?_) | fail)
    all_goals first | (exfalso; omega) | (exfalso; simp_all; done) | exact h0 | (exfalso; simp_all [listB]; done)
  · skip
    repeat' ((conv => whnf); first | (refine Exists.intro (bQ p 40) (And.intro rfl (And.intro rfl (And.intro (pic_le hq rfl) ?_))); rw [show (bQ p 40).cells = p.map I from rfl, pic_ld hq _ rfl]) | (refine Exists.intro ([] : List Nat) ?_) | (refine And.intro rfl ?_) | (refine And.intro (by decide +kernel) ?_) | (refine And.intro trivial ?_) | (refine d_layersOf (ha := sli_up ha) (hx := hx) (hl := by omega) (h1 := fun hall cp => ?_) (h2 := fun hf => ?_) .. <;> try rw [h6 hall]) | (refine d_IsPicture (hq := hq) (h0 := ?_) ..; rw [hpic]) | (refine Exists.intro _ (And.intro rfl (And.intro rfl (And.intro (Nat.le_of_ble_eq_true rfl) ?_)))) | (refine Exists.intro _ (And.intro rfl (And.intro rfl (And.intro rfl (And.intro (Nat.le_of_ble_eq_true rfl) ?_))))) | (refine And.intro (Exists.intro _ (And.intro rfl rfl)) ?_) | (exact fun hW => absurd hW (by decide +kernel)) | (intro hW; (try simp only [Bool.not_true, Bool.not_false, Bool.not_eq_true', Bool.not_eq_false', decide_eq_true_eq, decide_eq_false_iff_not, reduceCtorEq, Bool.true_eq_false, Bool.false_eq_true, mk_size, List.size_toArray, ByteArray.size_append, ByteArray.size_extract, List.length_cons, List.length_nil, ba_get, ba_empty, Int.toNat_natCast] at hW)) | (refine And.intro (?_ : _ → _) (?_ : _ → _)) | (refine FinR.drop 0 (Nat.zero_le _) (Closed.zero _) rfl ?_) | (refine FinR.keep ?_) | (refine And.intro (det3_agg rfl) ?_) | (refine fL_mk ?_) | (refine And.intro (by (try simp only [mk_size, List.size_toArray, ByteArray.size_append, ByteArray.size_extract, List.length_cons, List.length_nil]); omega) ?_) | (refine And.intro (by (try simp only [mk_size, List.size_toArray, ByteArray.size_append, ByteArray.size_extract, List.length_cons, List.length_nil, wrap64_eq]); omega) ?_) | fail)
    all_goals first | (exfalso; omega) | (exfalso; simp_all; done) | exact h0 | (exfalso; simp_all [listB]; done)
  · skip
    repeat' ((conv => whnf); first | (refine Exists.intro (bQ p 40) (And.intro rfl (And.intro rfl (And.intro (pic_le hq rfl) ?_))); rw [show (bQ p 40).cells = p.map I from rfl, pic_ld hq _ rfl]) | (refine Exists.intro ([] : List Nat) ?_) | (refine And.intro rfl ?_) | (refine And.intro (by decide +kernel) ?_) | (refine And.intro trivial ?_) | (refine d_layersOf (ha := sli_up ha) (hx := hx) (hl := by omega) (h1 := fun hall cp => ?_) (h2 := fun hf => ?_) .. <;> try rw [h6 hall]) | (refine d_IsPicture (hq := hq) (h0 := ?_) ..; rw [hpic]) | (refine Exists.intro _ (And.intro rfl (And.intro rfl (And.intro (Nat.le_of_ble_eq_true rfl) ?_)))) | (refine Exists.intro _ (And.intro rfl (And.intro rfl (And.intro rfl (And.intro (Nat.le_of_ble_eq_true rfl) ?_))))) | (refine And.intro (Exists.intro _ (And.intro rfl rfl)) ?_) | (exact fun hW => absurd hW (by decide +kernel)) | (intro hW; (try simp only [Bool.not_true, Bool.not_false, Bool.not_eq_true', Bool.not_eq_false', decide_eq_true_eq, decide_eq_false_iff_not, reduceCtorEq, Bool.true_eq_false, Bool.false_eq_true, mk_size, List.size_toArray, ByteArray.size_append, ByteArray.size_extract, List.length_cons, List.length_nil, ba_get, ba_empty, Int.toNat_natCast] at hW)) | (refine And.intro (?_ : _ → _) (?_ : _ → _)) | (refine FinR.drop 0 (Nat.zero_le _) (Closed.zero _) rfl ?_) | (refine FinR.keep ?_) | (refine And.intro (det3_agg rfl) ?_) | (refine fL_mk ?_) | (refine And.intro (by (try simp only [mk_size, List.size_toArray, ByteArray.size_append, ByteArray.size_extract, List.length_cons, List.length_nil]); omega) ?_) | (refine And.intro (by (try simp only [mk_size, List.size_toArray, ByteArray.size_append, ByteArray.size_extract, List.length_cons, List.length_nil, wrap64_eq]); omega) ?_) | fail)
    all_goals first | (exfalso; omega) | (exfalso; simp_all; done) | exact h0 | (exfalso; simp_all [listB]; done)
theorem d_rightT (p : List Int) (hq : p.length = 36) (a : AV) (xs : List (List Int)) (ha : Sli W0 σ 9 enI a xs) (hx : ∀ x ∈ xs, x.length = 9) (hpic : picB p = true) (hlb : listB xs = true) (L : List (List Int)) (hL : rightsL p xs = L) (K : Cont) (h0 : ∀ S b v cap B, S[b]? = some B → B.ver = v → σ.length ≤ b → B.e = 43 → B.esz = 1 → Nest S B.cells L → (∀ (j : Nat) (B : Blk), σ[j]? = some B → S[j]? = some B) → K (.tup [.sl b v 0 L.length cap, Bo true]) S) : ACall Try.prog W0 34 [Pi p, a] σ K := by
  subst hL
  refine lift_PS1 (ι := { p' : AV × List Blk // NestL p'.2 0 p'.1 (rightsL p xs) }) (fun p => .tup [p.1.1, Bo true]) (fun p => p.1.2) (by kernel_rfl) (pureI p) ha
    (fun W1 a' h K hK => c_rightOrdersT p hq a' xs h hx hpic hlb K fun S x hx => hK ⟨(x, S), hx⟩) K (fun p => ?_)
  obtain ⟨b, v, cap, B, h1, h2, h3, h4, h5, h6, h7⟩ := p.2.sh (T := σ)
  show K (.tup [sh2 σ.length p.1.1, Bo true]) _
  rw [show sh2 σ.length p.1.1 = .sl b v 0 (rightsL _ xs).length cap from ?_]
  · exact h0 _ b v cap B h2 h3 h4 h5 h6 h7 (fun j B hj => getx1 hj)
  · rw [← h1]
    obtain ⟨_, _, _, _, e, _⟩ := p.2
    rw [e]; rfl
theorem d_rightF (p : List Int) (hq : p.length = 36) (a : AV) (xs : List (List Int)) (ha : Sli W0 σ 9 enI a xs) (hx : ∀ x ∈ xs, x.length = 9) (hl : xs.length ≤ 1048576) (hb : (picB p && listB xs) = false) (K : Cont) (h0 : K (.tup [nilA, Bo false]) σ) : ACall Try.prog W0 34 [Pi p, a] σ K :=
  lift_PS1 (ι := Unit) (fun _ => .tup [nilA, Bo false]) (fun _ => []) (by kernel_rfl) (pureI p) ha (fun W1 a' h K hK => c_rightOrdersF p hq a' xs h hx hl hb K (hK ())) K (fun _ => by
    rw [show shB σ.length [] = [] from rfl, List.append_nil]; exact h0)
theorem c_CountT (p : List Int) (hq : p.length = 36) (a : AV) (xs : List (List Int)) (ha : Sli W0 [] 9 enI a xs) (hx : ∀ x ∈ xs, x.length = 9) (hpic : picB p = true) (hlb : listB xs = true) (K : Cont) (h0 : K (.tup [I (rightsL p xs).length, Bo true]) []) : ACall Try.prog W0 17 [Pi p, a] [] K := by
  obtain ⟨va, rfl⟩ := sli_lit ha
  refine by17 (Nat.le_of_ble_eq_true rfl) ?_
  generalize hL : rightsL p xs = L at h0
  repeat' ((conv => whnf); first | (refine Exists.intro (bQ p 40) (And.intro rfl (And.intro rfl (And.intro (pic_le hq rfl) ?_))); rw [show (bQ p 40).cells = p.map I from rfl, pic_ld hq _ rfl]) | (refine Exists.intro ([] : List Nat) ?_) | (refine And.intro rfl ?_) | (refine And.intro (by decide +kernel) ?_) | (refine And.intro trivial ?_) | (refine d_rightT (hq := hq) (ha := sli_up ha) (hx := hx) (hpic := hpic) (hlb := hlb) (hL := hL) (h0 := fun S b v cap B f0 f1 f2 f3 f4 f5 hk => ?_) ..) | (refine And.intro ⟨_, f0, f1⟩ ?_) | (refine Exists.intro _ (And.intro rfl (And.intro rfl (And.intro (Nat.le_of_ble_eq_true rfl) ?_)))) | (refine Exists.intro _ (And.intro rfl (And.intro rfl (And.intro rfl (And.intro (Nat.le_of_ble_eq_true rfl) ?_))))) | (refine And.intro (Exists.intro _ (And.intro rfl rfl)) ?_) | (exact fun hW => absurd hW (by decide +kernel)) | (intro hW; (try simp only [Bool.not_true, Bool.not_false, Bool.not_eq_true', Bool.not_eq_false', decide_eq_true_eq, decide_eq_false_iff_not, reduceCtorEq, Bool.true_eq_false, Bool.false_eq_true, mk_size, List.size_toArray, ByteArray.size_append, ByteArray.size_extract, List.length_cons, List.length_nil, ba_get, ba_empty, Int.toNat_natCast] at hW)) | (refine And.intro (?_ : _ → _) (?_ : _ → _)) | (refine FinR.drop 0 (Nat.zero_le _) (Closed.zero _) rfl ?_) | (refine FinR.keep ?_) | (refine And.intro (det3_agg rfl) ?_) | (refine fL_mk ?_) | (refine And.intro (by (try simp only [mk_size, List.size_toArray, ByteArray.size_append, ByteArray.size_extract, List.length_cons, List.length_nil]); omega) ?_) | (refine And.intro (by (try simp only [mk_size, List.size_toArray, ByteArray.size_append, ByteArray.size_extract, List.length_cons, List.length_nil, wrap64_eq]); omega) ?_) | fail)
  all_goals first | (exfalso; omega) | (exfalso; simp_all; done) | exact h0
theorem c_CountF (p : List Int) (hq : p.length = 36) (a : AV) (xs : List (List Int)) (ha : Sli W0 [] 9 enI a xs) (hx : ∀ x ∈ xs, x.length = 9) (hl : xs.length ≤ 1048576) (hb : (picB p && listB xs) = false) (K : Cont) (h0 : K (.tup [I 0, Bo false]) []) : ACall Try.prog W0 17 [Pi p, a] [] K := by
  obtain ⟨va, rfl⟩ := sli_lit ha
  refine by17 (Nat.le_of_ble_eq_true rfl) ?_
  repeat' ((conv => whnf); first | (refine Exists.intro (bQ p 40) (And.intro rfl (And.intro rfl (And.intro (pic_le hq rfl) ?_))); rw [show (bQ p 40).cells = p.map I from rfl, pic_ld hq _ rfl]) | (refine Exists.intro ([] : List Nat) ?_) | (refine And.intro rfl ?_) | (refine And.intro (by decide +kernel) ?_) | (refine And.intro trivial ?_) | (refine d_rightF (hq := hq) (ha := sli_up ha) (hx := hx) (hl := hl) (hb := hb) (h0 := ?_) ..) | (refine Exists.intro _ (And.intro rfl (And.intro rfl (And.intro (Nat.le_of_ble_eq_true rfl) ?_)))) | (refine Exists.intro _ (And.intro rfl (And.intro rfl (And.intro rfl (And.intro (Nat.le_of_ble_eq_true rfl) ?_))))) | (refine And.intro (Exists.intro _ (And.intro rfl rfl)) ?_) | (exact fun hW => absurd hW (by decide +kernel)) | (intro hW; (try simp only [Bool.not_true, Bool.not_false, Bool.not_eq_true', Bool.not_eq_false', decide_eq_true_eq, decide_eq_false_iff_not, reduceCtorEq, Bool.true_eq_false, Bool.false_eq_true, mk_size, List.size_toArray, ByteArray.size_append, ByteArray.size_extract, List.length_cons, List.length_nil, ba_get, ba_empty, Int.toNat_natCast] at hW)) | (refine And.intro (?_ : _ → _) (?_ : _ → _)) | (refine FinR.drop 0 (Nat.zero_le _) (Closed.zero _) rfl ?_) | (refine FinR.keep ?_) | (refine And.intro (det3_agg rfl) ?_) | (refine fL_mk ?_) | (refine And.intro (by (try simp only [mk_size, List.size_toArray, ByteArray.size_append, ByteArray.size_extract, List.length_cons, List.length_nil]); omega) ?_) | (refine And.intro (by (try simp only [mk_size, List.size_toArray, ByteArray.size_append, ByteArray.size_extract, List.length_cons, List.length_nil, wrap64_eq]); omega) ?_) | fail)
  all_goals first | (exfalso; omega) | (exfalso; simp_all; done) | exact h0
theorem c_FirstF (p : List Int) (hq : p.length = 36) (a : AV) (xs : List (List Int)) (ha : Sli W0 [] 9 enI a xs) (hx : ∀ x ∈ xs, x.length = 9) (hl : xs.length ≤ 1048576) (hb : (picB p && listB xs) = false) (K : Cont) (h0 : K (.tup [nilA, Bo false]) []) : ACall Try.prog W0 19 [Pi p, a] [] K := by
  obtain ⟨va, rfl⟩ := sli_lit ha
  refine by19 (Nat.le_of_ble_eq_true rfl) ?_
  repeat' ((conv => whnf); first | (refine Exists.intro (bQ p 40) (And.intro rfl (And.intro rfl (And.intro (pic_le hq rfl) ?_))); rw [show (bQ p 40).cells = p.map I from rfl, pic_ld hq _ rfl]) | (refine Exists.intro ([] : List Nat) ?_) | (refine And.intro rfl ?_) | (refine And.intro (by decide +kernel) ?_) | (refine And.intro trivial ?_) | (refine d_rightF (hq := hq) (ha := sli_up ha) (hx := hx) (hl := hl) (hb := hb) (h0 := ?_) ..) | (refine Exists.intro _ (And.intro rfl (And.intro rfl (And.intro (Nat.le_of_ble_eq_true rfl) ?_)))) | (refine Exists.intro _ (And.intro rfl (And.intro rfl (And.intro rfl (And.intro (Nat.le_of_ble_eq_true rfl) ?_))))) | (refine And.intro (Exists.intro _ (And.intro rfl rfl)) ?_) | (exact fun hW => absurd hW (by decide +kernel)) | (intro hW; (try simp only [Bool.not_true, Bool.not_false, Bool.not_eq_true', Bool.not_eq_false', decide_eq_true_eq, decide_eq_false_iff_not, reduceCtorEq, Bool.true_eq_false, Bool.false_eq_true, mk_size, List.size_toArray, ByteArray.size_append, ByteArray.size_extract, List.length_cons, List.length_nil, ba_get, ba_empty, Int.toNat_natCast] at hW)) | (refine And.intro (?_ : _ → _) (?_ : _ → _)) | (refine FinR.drop 0 (Nat.zero_le _) (Closed.zero _) rfl ?_) | (refine FinR.keep ?_) | (refine And.intro (det3_agg rfl) ?_) | (refine fL_mk ?_) | (refine And.intro (by (try simp only [mk_size, List.size_toArray, ByteArray.size_append, ByteArray.size_extract, List.length_cons, List.length_nil]); omega) ?_) | (refine And.intro (by (try simp only [mk_size, List.size_toArray, ByteArray.size_append, ByteArray.size_extract, List.length_cons, List.length_nil, wrap64_eq]); omega) ?_) | fail)
  all_goals first | (exfalso; omega) | (exfalso; simp_all; done) | exact h0
/-- no right order -/
theorem c_FirstN (p : List Int) (hq : p.length = 36) (a : AV) (xs : List (List Int)) (ha : Sli W0 [] 9 enI a xs) (hx : ∀ x ∈ xs, x.length = 9) (hpic : picB p = true) (hlb : listB xs = true) (hL : rightsL p xs = []) (K : Cont) (h0 : K (.tup [nilA, Bo false]) []) : ACall Try.prog W0 19 [Pi p, a] [] K := by
  obtain ⟨va, rfl⟩ := sli_lit ha
  refine by19 (Nat.le_of_ble_eq_true rfl) ?_
  repeat' ((conv => whnf); first | (refine Exists.intro (bQ p 40) (And.intro rfl (And.intro rfl (And.intro (pic_le hq rfl) ?_))); rw [show (bQ p 40).cells = p.map I from rfl, pic_ld hq _ rfl]) | (refine Exists.intro ([] : List Nat) ?_) | (refine And.intro rfl ?_) | (refine And.intro (by decide +kernel) ?_) | (refine And.intro trivial ?_) | (refine d_rightT (hq := hq) (ha := sli_up ha) (hx := hx) (hpic := hpic) (hlb := hlb) (hL := hL) (h0 := fun S b v cap B f0 f1 f2 f3 f4 f5 hk => ?_) ..) | (refine And.intro ⟨_, f0, f1⟩ ?_) | (refine Exists.intro _ (And.intro rfl (And.intro rfl (And.intro (Nat.le_of_ble_eq_true rfl) ?_)))) | (refine Exists.intro _ (And.intro rfl (And.intro rfl (And.intro rfl (And.intro (Nat.le_of_ble_eq_true rfl) ?_))))) | (refine And.intro (Exists.intro _ (And.intro rfl rfl)) ?_) | (exact fun hW => absurd hW (by decide +kernel)) | (intro hW; (try simp only [Bool.not_true, Bool.not_false, Bool.not_eq_true', Bool.not_eq_false', decide_eq_true_eq, decide_eq_false_iff_not, reduceCtorEq, Bool.true_eq_false, Bool.false_eq_true, mk_size, List.size_toArray, ByteArray.size_append, ByteArray.size_extract, List.length_cons, List.length_nil, ba_get, ba_empty, Int.toNat_natCast] at hW)) | (refine And.intro (?_ : _ → _) (?_ : _ → _)) | (refine FinR.drop 0 (Nat.zero_le _) (Closed.zero _) rfl ?_) | (refine FinR.keep ?_) | (refine And.intro (det3_agg rfl) ?_) | (refine fL_mk ?_) | (refine And.intro (by (try simp only [mk_size, List.size_toArray, ByteArray.size_append, ByteArray.size_extract, List.length_cons, List.length_nil]); omega) ?_) | (refine And.intro (by (try simp only [mk_size, List.size_toArray, ByteArray.size_append, ByteArray.size_extract, List.length_cons, List.length_nil, wrap64_eq]); omega) ?_) | fail)
  all_goals first | (exfalso; omega) | (exfalso; simp_all; done) | exact h0
theorem c_FirstS (p : List Int) (hq : p.length = 36) (a : AV) (xs : List (List Int)) (ha : Sli W0 [] 9 enI a xs) (hx : ∀ x ∈ xs, x.length = 9) (hpic : picB p = true) (hlb : listB xs = true) (r : List Int) (L : List (List Int)) (hL : rightsL p xs = r :: L) (K : Cont) (h0 : ∀ S x, Ord1 S x r → K (.tup [x, Bo true]) S) : ACall Try.prog W0 19 [Pi p, a] [] K := by
  obtain ⟨va, rfl⟩ := sli_lit ha
  refine by19 (Nat.le_of_ble_eq_true rfl) ?_
  repeat' ((conv => whnf); first | (refine Exists.intro (bQ p 40) (And.intro rfl (And.intro rfl (And.intro (pic_le hq rfl) ?_))); rw [show (bQ p 40).cells = p.map I from rfl, pic_ld hq _ rfl]) | (refine Exists.intro ([] : List Nat) ?_) | (refine And.intro rfl ?_) | (refine And.intro (by decide +kernel) ?_) | (refine And.intro trivial ?_) | (refine d_rightT (hq := hq) (ha := sli_up ha) (hx := hx) (hpic := hpic) (hlb := hlb) (hL := hL) (h0 := fun S b v cap B f0 f1 f2 f3 f4 f5 hk => ?_) ..) | (refine And.intro ⟨_, f0, f1⟩ ?_) | (have q := f5; obtain ⟨ak, hak, b3, v3, c3, B3, rfl, u0, u1, u2, u3, u4⟩ := q.get (i := 0) (l := r) rfl; refine Exists.intro B (And.intro f0 (And.intro f1 (And.intro (cell_le0 hak) ?_))); rw [cell_at0 hak]) | (refine Exists.intro _ (And.intro rfl (And.intro rfl (And.intro (Nat.le_of_ble_eq_true rfl) ?_)))) | (refine Exists.intro _ (And.intro rfl (And.intro rfl (And.intro rfl (And.intro (Nat.le_of_ble_eq_true rfl) ?_))))) | (refine And.intro (Exists.intro _ (And.intro rfl rfl)) ?_) | (exact fun hW => absurd hW (by decide +kernel)) | (intro hW; (try simp only [Bool.not_true, Bool.not_false, Bool.not_eq_true', Bool.not_eq_false', decide_eq_true_eq, decide_eq_false_iff_not, reduceCtorEq, Bool.true_eq_false, Bool.false_eq_true, mk_size, List.size_toArray, ByteArray.size_append, ByteArray.size_extract, List.length_cons, List.length_nil, ba_get, ba_empty, Int.toNat_natCast] at hW)) | (refine And.intro (?_ : _ → _) (?_ : _ → _)) | (refine FinR.drop 0 (Nat.zero_le _) (Closed.zero _) rfl ?_) | (refine FinR.keep ?_) | (refine And.intro (det3_agg rfl) ?_) | (refine fL_mk ?_) | (refine And.intro (by (try simp only [mk_size, List.size_toArray, ByteArray.size_append, ByteArray.size_extract, List.length_cons, List.length_nil]); omega) ?_) | (refine And.intro (by (try simp only [mk_size, List.size_toArray, ByteArray.size_append, ByteArray.size_extract, List.length_cons, List.length_nil, wrap64_eq]); omega) ?_) | fail)
  all_goals first | (exfalso; omega) | (exfalso; simp_all; done) | skip
  skip
  exact h0 _ _ ⟨b3, v3, c3, B3, rfl, u0, u1, u2, u3, u4⟩
end Go.Proofs.Ytbbmlnaekefaaaa
end

section
/- Orders: how many and which first, by both sides. -/
set_option linter.unusedVariables false
set_option linter.unusedSimpArgs false
set_option maxRecDepth 100000
set_option maxHeartbeats 4000000
namespace Go.Proofs.Ytbbmlnaekefaaaa
open Go Go.RowKit Go.Proofs.Ytbbmlnaekefaaaa.Abs
variable {W0 : World} {σ : List Blk}
def goodO (p : List Int) (xs : List (List Int)) : Bool := picB p && listB xs
/-- how many orders are right -/
def cntO (p : List Int) (xs : List (List Int)) : Nat := if goodO p xs then (rightsL p xs).length else 0
/-- the first right order -/
def firstO (p : List Int) (xs : List (List Int)) : Option (List Int) := if goodO p xs then (rightsL p xs).head? else none
theorem firstO_some {p : List Int} {xs : List (List Int)} {r : List Int} (h : firstO p xs = some r) : picB p = true ∧ listB xs = true ∧ (∃ L, rightsL p xs = r :: L) ∧ r.length = xs.length ∧ xs.length ≤ 6 := by
  unfold firstO at h
  split at h
  · rename_i hg
    simp only [goodO, Bool.and_eq_true] at hg
    obtain ⟨hl, hall⟩ := listB_iff.1 hg.2
    cases hr : rightsL p xs with
    | nil => rw [hr] at h; cases h
    | cons x L =>
      rw [hr] at h; cases h
      have hm : r ∈ rightsL p xs := by rw [hr]; exact List.mem_cons_self
      refine ⟨hg.1, hg.2, ⟨L, rfl⟩, ?_, hl⟩
      exact perms_row _ _ (place_len _) r (List.mem_filter.1 hm).1
  · cases h
theorem firstO_none {p : List Int} {xs : List (List Int)} (h : firstO p xs = none) : goodO p xs = false ∨ (picB p = true ∧ listB xs = true ∧ rightsL p xs = []) := by
  unfold firstO at h
  split at h
  · rename_i hg
    simp only [goodO, Bool.and_eq_true] at hg
    exact .inr ⟨hg.1, hg.2, by cases hr : rightsL p xs with
      | nil => rfl
      | cons x L => rw [hr] at h; cases h⟩
  · rename_i hg; exact .inl (by simpa using hg)
theorem ord_sh {S : List Blk} {x : AV} {r : List Int} {s : Bool} (K : Cont) (h0 : ∀ S b v cap B, S[b]? = some B → B.ver = v → B.cells = r.map I → B.e = 3 → B.esz = 1 → σ.length ≤ b → (∀ (j : Nat) (B : Blk), σ[j]? = some B → S[j]? = some B) → K (.tup [.sl b v 0 r.length cap, Bo s]) S) (h : Ord1 S x r) : K (sh3 σ.length (.tup [x, Bo s])) (σ ++ shB σ.length S) := by
  obtain ⟨b, v, cap, B, h1, h2, h3, h4, h5, h6⟩ := h.sh (T := σ) rfl
  have e : sh3 σ.length (.tup [x, Bo s]) = .tup [.sl b v 0 r.length cap, Bo s] := by
    show AV.tup [sh2 σ.length x, _] = _
    rw [show sh2 σ.length x = .sl b v 0 r.length cap from ?_]
    · rfl
    · rw [← h1]
      obtain ⟨_, _, _, _, e, _⟩ := h
      rw [e]; rfl
  rw [e]
  refine h0 _ b v cap B h2 h4 h3 h5 h6 ?_ (fun j B hj => getx1 hj)
  obtain ⟨b', v', cap', B', e', _⟩ := h
  rw [e'] at h1
  have e2 : AV.sl (σ.length + b') v' 0 r.length cap' = .sl b v 0 r.length cap := h1
  injection e2 with e3
  omega
theorem d_sFirstS (p : List Int) (hq : p.length = 36) (a : AV) (xs : List (List Int)) (ha : Sli W0 σ 9 enI a xs) (hx : ∀ x ∈ xs, x.length = 9) (r : List Int) (hL : firstO p xs = some r) (K : Cont) (h0 : ∀ S b v cap B, S[b]? = some B → B.ver = v → B.cells = r.map I → B.e = 3 → B.esz = 1 → σ.length ≤ b → (∀ (j : Nat) (B : Blk), σ[j]? = some B → S[j]? = some B) → K (.tup [.sl b v 0 r.length cap, Bo true]) S) : ACall Try.prog W0 18 [Pi p, a] σ K := by
  obtain ⟨hpic, hlb, ⟨L, hr⟩, -⟩ := firstO_some hL
  refine lift_PS1 (ι := { q : AV × List Blk // Ord1 q.2 q.1 r }) (fun q => .tup [q.1.1, Bo true]) (fun q => q.1.2) (by kernel_rfl) (pureI p) ha
    (fun W1 a' h K hK => c_sFirstT p hq a' xs h hx hpic hlb K fun S x hx => ?_) K (fun q => ord_sh K h0 q.2)
  rw [hr] at hx ⊢
  exact hK ⟨(x, S), hx⟩
theorem d_sFirstN (p : List Int) (hq : p.length = 36) (a : AV) (xs : List (List Int)) (ha : Sli W0 σ 9 enI a xs) (hx : ∀ x ∈ xs, x.length = 9) (hl : xs.length ≤ 1048576) (hL : firstO p xs = none) (K : Cont) (h0 : ∀ S b v cap B, S[b]? = some B → B.ver = v → B.cells = ([] : List Int).map I → B.e = 3 → B.esz = 1 → σ.length ≤ b → (∀ (j : Nat) (B : Blk), σ[j]? = some B → S[j]? = some B) → K (.tup [.sl b v 0 ([] : List Int).length cap, Bo false]) S) : ACall Try.prog W0 18 [Pi p, a] σ K := by
  refine lift_PS1 (ι := { q : AV × List Blk // Ord1 q.2 q.1 [] }) (fun q => .tup [q.1.1, Bo false]) (fun q => q.1.2) (by kernel_rfl) (pureI p) ha
    (fun W1 a' h K hK => ?_) K (fun q => ord_sh K h0 q.2)
  rcases firstO_none hL with hb | ⟨hpic, hlb, hr⟩
  · exact c_sFirstF p hq a' xs h hx hl hb K fun S x hx => hK ⟨(x, S), hx⟩
  · refine c_sFirstT p hq a' xs h hx hpic hlb K fun S x hx => ?_
    rw [hr] at hx ⊢
    exact hK ⟨(x, S), hx⟩
theorem d_FirstS (p : List Int) (hq : p.length = 36) (a : AV) (xs : List (List Int)) (ha : Sli W0 σ 9 enI a xs) (hx : ∀ x ∈ xs, x.length = 9) (r : List Int) (hL : firstO p xs = some r) (K : Cont) (h0 : ∀ S b v cap B, S[b]? = some B → B.ver = v → B.cells = r.map I → B.e = 3 → B.esz = 1 → σ.length ≤ b → (∀ (j : Nat) (B : Blk), σ[j]? = some B → S[j]? = some B) → K (.tup [.sl b v 0 r.length cap, Bo true]) S) : ACall Try.prog W0 19 [Pi p, a] σ K := by
  obtain ⟨hpic, hlb, ⟨L, hr⟩, -⟩ := firstO_some hL
  exact lift_PS1 (ι := { q : AV × List Blk // Ord1 q.2 q.1 r }) (fun q => .tup [q.1.1, Bo true]) (fun q => q.1.2) (by kernel_rfl) (pureI p) ha
    (fun W1 a' h K hK => c_FirstS p hq a' xs h hx hpic hlb r L hr K fun S x hx => hK ⟨(x, S), hx⟩) K (fun q => ord_sh K h0 q.2)
theorem d_FirstN (p : List Int) (hq : p.length = 36) (a : AV) (xs : List (List Int)) (ha : Sli W0 σ 9 enI a xs) (hx : ∀ x ∈ xs, x.length = 9) (hl : xs.length ≤ 1048576) (hL : firstO p xs = none) (K : Cont) (h0 : K (.tup [nilA, Bo false]) σ) : ACall Try.prog W0 19 [Pi p, a] σ K := by
  refine lift_PS1 (ι := Unit) (fun _ => .tup [nilA, Bo false]) (fun _ => []) (by kernel_rfl) (pureI p) ha (fun W1 a' h K hK => ?_) K (fun _ => by
    rw [show shB σ.length [] = [] from rfl, List.append_nil]; exact h0)
  rcases firstO_none hL with hb | ⟨hpic, hlb, hr⟩
  · exact c_FirstF p hq a' xs h hx hl hb K (hK ())
  · exact c_FirstN p hq a' xs h hx hpic hlb hr K (hK ())
theorem d_sCount (p : List Int) (hq : p.length = 36) (a : AV) (xs : List (List Int)) (ha : Sli W0 σ 9 enI a xs) (hx : ∀ x ∈ xs, x.length = 9) (hl : xs.length ≤ 1048576) (K : Cont) (h0 : K (.tup [I (cntO p xs), Bo (goodO p xs)]) σ) : ACall Try.prog W0 15 [Pi p, a] σ K := by
  refine lift_PS1 (ι := Unit) (fun _ => .tup [I (cntO p xs), Bo (goodO p xs)]) (fun _ => []) (by kernel_rfl) (pureI p) ha (fun W1 a' h K hK => ?_) K (fun _ => by
    rw [show shB σ.length [] = [] from rfl, List.append_nil]; exact h0)
  have hK := hK ()
  cases hg : goodO p xs with
  | false => rw [cntO, hg, if_neg (by decide)] at hK; exact c_sCountF p hq a' xs h hx hl hg K hK
  | true =>
    rw [cntO, hg, if_pos rfl] at hK
    simp only [goodO, Bool.and_eq_true] at hg
    exact c_sCountT p hq a' xs h hx hg.1 hg.2 K hK
theorem d_Count (p : List Int) (hq : p.length = 36) (a : AV) (xs : List (List Int)) (ha : Sli W0 σ 9 enI a xs) (hx : ∀ x ∈ xs, x.length = 9) (hl : xs.length ≤ 1048576) (K : Cont) (h0 : K (.tup [I (cntO p xs), Bo (goodO p xs)]) σ) : ACall Try.prog W0 17 [Pi p, a] σ K := by
  refine lift_PS1 (ι := Unit) (fun _ => .tup [I (cntO p xs), Bo (goodO p xs)]) (fun _ => []) (by kernel_rfl) (pureI p) ha (fun W1 a' h K hK => ?_) K (fun _ => by
    rw [show shB σ.length [] = [] from rfl, List.append_nil]; exact h0)
  have hK := hK ()
  cases hg : goodO p xs with
  | false => rw [cntO, hg, if_neg (by decide)] at hK; exact c_CountF p hq a' xs h hx hl hg K hK
  | true =>
    rw [cntO, hg, if_pos rfl] at hK
    simp only [goodO, Bool.and_eq_true] at hg
    exact c_CountT p hq a' xs h hx hg.1 hg.2 K hK
end Go.Proofs.Ytbbmlnaekefaaaa
end

section
/- Orders: the laws of CountOrders and FirstOrder. -/
set_option linter.unusedVariables false
set_option linter.unusedSimpArgs false
set_option maxRecDepth 100000
set_option maxHeartbeats 4000000
namespace Go.Proofs.Ytbbmlnaekefaaaa
open Go Go.RowKit Go.Proofs.Ytbbmlnaekefaaaa.Abs
variable {W0 : World} {σ : List Blk}
theorem c_law_CountOrdersQ (p : List Int) (hq : p.length = 36) (v : Value) (xs : List (List Int)) (ha : Sli W0 [] 9 enI (.lit v) xs) (hx : ∀ x ∈ xs, x.length = 9) (hm : xs.length ≤ maxLen) (K : Cont) (h0 : K (Bo true) []) : ACall Try.prog W0 4 [Pi p, .lit v] [] K := by
  have hm' : xs.length ≤ 9223372036854775807 := hm
  refine by4 (Nat.le_of_ble_eq_true rfl) ?_
  by_cases hl : xs.length ≤ 1048576
  · have hz : ¬ ((1048576 : Int) - (xs.length : Nat) < 0) := by omega
    generalize hg : goodO p xs = gb
    repeat' ((conv => whnf); first | (refine Exists.intro (bQ p 37) (And.intro (by rfl) (And.intro rfl (And.intro (pic_le hq rfl) ?_))); rw [show (bQ p 37).cells = p.map I from rfl, pic_ld hq _ rfl]) | (refine Exists.intro ([] : List Nat) ?_) | (refine And.intro rfl ?_) | (refine And.intro (by decide +kernel) ?_) | (refine And.intro trivial ?_) | (refine d_szPrintS (ha := sli_up ha) (hl := by omega) (hm := by decide) (h0 := ?_) .. <;> try rw [if_neg hz]) | (refine d_toPicture (hq := hq) (h0 := ?_) ..) | (refine d_toPrintS (hs := sli_up ha) (hx := hx) (hl := by omega) (h0 := ?_) ..) | (refine d_sCount (hq := hq) (ha := sli_rows hx rfl) (hx := hx) (hl := hl) (h0 := ?_) ..) | (refine d_Count (hq := hq) (ha := sli_rows hx rfl) (hx := hx) (hl := hl) (h0 := ?_) ..) | (refine d_eqPrintS (ha := sli_rows hx rfl) (hb' := sli_rows hx rfl) (hx := hx) (hl := by omega) (h0 := ?_) ..) | (refine Exists.intro _ (And.intro rfl (And.intro rfl (And.intro (Nat.le_of_ble_eq_true rfl) ?_)))) | (refine Exists.intro _ (And.intro rfl (And.intro rfl (And.intro rfl (And.intro (Nat.le_of_ble_eq_true rfl) ?_))))) | (refine And.intro (Exists.intro _ (And.intro rfl rfl)) ?_) | (exact fun hW => absurd hW (by decide +kernel)) | (intro hW; (try simp only [Bool.not_true, Bool.not_false, Bool.not_eq_true', Bool.not_eq_false', decide_eq_true_eq, decide_eq_false_iff_not, reduceCtorEq, Bool.true_eq_false, Bool.false_eq_true, mk_size, List.size_toArray, ByteArray.size_append, ByteArray.size_extract, List.length_cons, List.length_nil, ba_get, ba_empty, Int.toNat_natCast] at hW)) | (refine And.intro (?_ : _ → _) (?_ : _ → _)) | (refine FinR.drop 0 (Nat.zero_le _) (Closed.zero _) rfl ?_) | (refine FinR.keep ?_) | (refine And.intro (det3_agg rfl) ?_) | (refine fL_mk ?_) | (refine And.intro (by (try simp only [mk_size, List.size_toArray, ByteArray.size_append, ByteArray.size_extract, List.length_cons, List.length_nil]); omega) ?_) | (refine And.intro (by (try simp only [mk_size, List.size_toArray, ByteArray.size_append, ByteArray.size_extract, List.length_cons, List.length_nil, wrap64_eq]); omega) ?_) | fail)
    all_goals first | exact h0 | (exfalso; omega) | (exfalso; simp_all; done)
  · have hz : ((1048576 : Int) - (xs.length : Nat) < 0) := by omega
    repeat' ((conv => whnf); first | (refine Exists.intro (bQ p 37) (And.intro (by rfl) (And.intro rfl (And.intro (pic_le hq rfl) ?_))); rw [show (bQ p 37).cells = p.map I from rfl, pic_ld hq _ rfl]) | (refine Exists.intro ([] : List Nat) ?_) | (refine And.intro rfl ?_) | (refine And.intro (by decide +kernel) ?_) | (refine And.intro trivial ?_) | (refine d_szPrintS (ha := sli_up ha) (hl := hm') (hm := by decide) (h0 := ?_) .. <;> try rw [if_pos hz]) | (refine Exists.intro _ (And.intro rfl (And.intro rfl (And.intro (Nat.le_of_ble_eq_true rfl) ?_)))) | (refine Exists.intro _ (And.intro rfl (And.intro rfl (And.intro rfl (And.intro (Nat.le_of_ble_eq_true rfl) ?_))))) | (refine And.intro (Exists.intro _ (And.intro rfl rfl)) ?_) | (exact fun hW => absurd hW (by decide +kernel)) | (intro hW; (try simp only [Bool.not_true, Bool.not_false, Bool.not_eq_true', Bool.not_eq_false', decide_eq_true_eq, decide_eq_false_iff_not, reduceCtorEq, Bool.true_eq_false, Bool.false_eq_true, mk_size, List.size_toArray, ByteArray.size_append, ByteArray.size_extract, List.length_cons, List.length_nil, ba_get, ba_empty, Int.toNat_natCast] at hW)) | (refine And.intro (?_ : _ → _) (?_ : _ → _)) | (refine FinR.drop 0 (Nat.zero_le _) (Closed.zero _) rfl ?_) | (refine FinR.keep ?_) | (refine And.intro (det3_agg rfl) ?_) | (refine fL_mk ?_) | (refine And.intro (by (try simp only [mk_size, List.size_toArray, ByteArray.size_append, ByteArray.size_extract, List.length_cons, List.length_nil]); omega) ?_) | (refine And.intro (by (try simp only [mk_size, List.size_toArray, ByteArray.size_append, ByteArray.size_extract, List.length_cons, List.length_nil, wrap64_eq]); omega) ?_) | fail)
    all_goals first | exact h0 | (exfalso; omega) | (exfalso; simp_all; done)
theorem c_law_CountOrders (a0 : Int) (ha0 : IntKind.i64.has a0) (a1 : Int) (ha1 : IntKind.i64.has a1) (a2 : Int) (ha2 : IntKind.i64.has a2) (a3 : Int) (ha3 : IntKind.i64.has a3) (a4 : Int) (ha4 : IntKind.i64.has a4) (a5 : Int) (ha5 : IntKind.i64.has a5) (a6 : Int) (ha6 : IntKind.i64.has a6) (a7 : Int) (ha7 : IntKind.i64.has a7) (a8 : Int) (ha8 : IntKind.i64.has a8) (a9 : Int) (ha9 : IntKind.i64.has a9) (a10 : Int) (ha10 : IntKind.i64.has a10) (a11 : Int) (ha11 : IntKind.i64.has a11) (a12 : Int) (ha12 : IntKind.i64.has a12) (a13 : Int) (ha13 : IntKind.i64.has a13) (a14 : Int) (ha14 : IntKind.i64.has a14) (a15 : Int) (ha15 : IntKind.i64.has a15) (a16 : Int) (ha16 : IntKind.i64.has a16) (a17 : Int) (ha17 : IntKind.i64.has a17) (a18 : Int) (ha18 : IntKind.i64.has a18) (a19 : Int) (ha19 : IntKind.i64.has a19) (a20 : Int) (ha20 : IntKind.i64.has a20) (a21 : Int) (ha21 : IntKind.i64.has a21) (a22 : Int) (ha22 : IntKind.i64.has a22) (a23 : Int) (ha23 : IntKind.i64.has a23) (a24 : Int) (ha24 : IntKind.i64.has a24) (a25 : Int) (ha25 : IntKind.i64.has a25) (a26 : Int) (ha26 : IntKind.i64.has a26) (a27 : Int) (ha27 : IntKind.i64.has a27) (a28 : Int) (ha28 : IntKind.i64.has a28) (a29 : Int) (ha29 : IntKind.i64.has a29) (a30 : Int) (ha30 : IntKind.i64.has a30) (a31 : Int) (ha31 : IntKind.i64.has a31) (a32 : Int) (ha32 : IntKind.i64.has a32) (a33 : Int) (ha33 : IntKind.i64.has a33) (a34 : Int) (ha34 : IntKind.i64.has a34) (a35 : Int) (ha35 : IntKind.i64.has a35) (v : Value) (xs : List (List Int)) (ha : Sli W0 [] 9 enI (.lit v) xs) (hxx : ∀ x ∈ xs, x.length = 9 ∧ ∀ n ∈ x, IntKind.i64.has n) (hm : xs.length ≤ maxLen) (K : Cont) (h0 : K (Bo true) []) : ACall Try.prog W0 4 [Pi (a0 :: a1 :: a2 :: a3 :: a4 :: a5 :: a6 :: a7 :: a8 :: a9 :: a10 :: a11 :: a12 :: a13 :: a14 :: a15 :: a16 :: a17 :: a18 :: a19 :: a20 :: a21 :: a22 :: a23 :: a24 :: a25 :: a26 :: a27 :: a28 :: a29 :: a30 :: a31 :: a32 :: a33 :: a34 :: a35 :: []), .lit v] [] K :=
  c_law_CountOrdersQ _ rfl v xs ha (fun x h => (hxx x h).1) hm K h0
end Go.Proofs.Ytbbmlnaekefaaaa
end

section
/- Orders: the law of FirstOrder. -/
set_option linter.unusedVariables false
set_option linter.unusedSimpArgs false
set_option maxRecDepth 100000
set_option maxHeartbeats 4000000
namespace Go.Proofs.Ytbbmlnaekefaaaa
open Go Go.RowKit Go.Proofs.Ytbbmlnaekefaaaa.Abs
variable {W0 : World} {σ : List Blk}
theorem c_law_FirstOrderN (p : List Int) (hq : p.length = 36) (v : Value) (xs : List (List Int)) (ha : Sli W0 [] 9 enI (.lit v) xs) (hx : ∀ x ∈ xs, x.length = 9) (hl : xs.length ≤ 1048576) (hL : firstO p xs = none) (K : Cont) (h0 : K (Bo true) []) : ACall Try.prog W0 5 [Pi p, .lit v] [] K := by
  refine by5 (Nat.le_of_ble_eq_true rfl) ?_
  have hz : ¬ ((1048576 : Int) - (xs.length : Nat) < 0) := by omega
  have h9 := jc_len9 hx
  repeat' ((conv => whnf); first | (refine Exists.intro (bQ p 37) (And.intro (by first | rfl | exact getx1 (k1 0 _ rfl) | exact getneO (getx1 (getx1 (k1 0 _ rfl))) z0) (And.intro rfl (And.intro (pic_le hq rfl) ?_))); rw [show (bQ p 37).cells = p.map I from rfl, pic_ld hq _ rfl]) | (refine Exists.intro ([] : List Nat) ?_) | (refine And.intro rfl ?_) | (refine And.intro (by decide +kernel) ?_) | (refine And.intro trivial ?_) | (refine d_szPrintS (ha := sli_up ha) (hl := by omega) (hm := by decide) (h0 := ?_) .. <;> try rw [if_neg hz]) | (refine d_toPicture (hq := hq) (h0 := ?_) ..) | (refine d_toPrintS (hs := sli_up ha) (hx := hx) (hl := by omega) (h0 := ?_) ..) | (refine d_sFirstN (hq := hq) (ha := sli_rows hx rfl) (hx := hx) (hl := hl) (hL := hL) (h0 := fun S1 b1 v1 c1 B1 e1 e2 e3 e4 e5 e6 k1 => ?_) ..; have z1 := getElem?_lt (k1 1 _ rfl); have z2 := getElem?_lt e1; have z0 : S1.length ≠ 0 := (by omega)) | (refine d_FirstN (hq := hq) (ha := sli_rows hx getl) (hx := hx) (hl := hl) (hL := hL) (h0 := ?_) ..) | (refine d_eqIntS (xs := []) (ha := .nil) (hb' := Ord1.sli (l := []) ⟨b1, v1, c1, B1, rfl, getx1 e1, e3, e2, e4, e5⟩) (hl := by decide) (h0 := ?_) ..) | (refine d_eqIntS (xs := []) (ha := .nil) (hb' := Ord1.sli (l := []) ⟨b1, v1, c1, B1, rfl, getneO (getx1 (getx1 e1)) (by omega), e3, e2, e4, e5⟩) (hl := by decide) (h0 := ?_) ..) | (refine d_eqIntS (xs := []) (ha := .nil) (hb' := Ord1.sli (l := []) ⟨b1, v1, c1, B1, rfl, getx1 (getneO (getx1 (getx1 e1)) (by omega)), e3, e2, e4, e5⟩) (hl := by decide) (h0 := ?_) ..) | (refine d_eqPrintS (ha := sli_rows hx (getx1 getl)) (hb' := sli_rows hx getl) (hx := hx) (hl := by omega) (h0 := ?_) ..) | (refine d_markPrintS (B := prB xs) (hB := getx1 getl) (hv := rfl) (hn := h9) (hn2 := by omega) (hk := by omega) (h0 := ?_) ..) | (refine d_markIntS0 (h0 := ?_) ..) | (refine d_heldIntS (n := 0) (ha := .nil) (hn2 := by omega) (hk := by omega) (h0 := ?_) ..) | (refine Exists.intro _ (And.intro rfl (And.intro rfl (And.intro (Nat.le_of_ble_eq_true rfl) ?_)))) | (refine Exists.intro _ (And.intro rfl (And.intro rfl (And.intro rfl (And.intro (Nat.le_of_ble_eq_true rfl) ?_))))) | (refine And.intro (Exists.intro _ (And.intro rfl rfl)) ?_) | (exact fun hW => absurd hW (by decide +kernel)) | (intro hW; (try simp only [Bool.not_true, Bool.not_false, Bool.not_eq_true', Bool.not_eq_false', decide_eq_true_eq, decide_eq_false_iff_not, reduceCtorEq, Bool.true_eq_false, Bool.false_eq_true, mk_size, List.size_toArray, ByteArray.size_append, ByteArray.size_extract, List.length_cons, List.length_nil, ba_get, ba_empty, Int.toNat_natCast] at hW)) | (refine And.intro (?_ : _ → _) (?_ : _ → _)) | (refine FinR.drop 0 (Nat.zero_le _) (Closed.zero _) rfl ?_) | (refine FinR.keep ?_) | (refine And.intro (det3_agg rfl) ?_) | (refine fL_mk ?_) | (refine And.intro (by (try simp only [mk_size, List.size_toArray, ByteArray.size_append, ByteArray.size_extract, List.length_cons, List.length_nil]); omega) ?_) | (refine And.intro (by (try simp only [mk_size, List.size_toArray, ByteArray.size_append, ByteArray.size_extract, List.length_cons, List.length_nil, wrap64_eq]); omega) ?_) | fail)
  all_goals first | exact h0 | (exfalso; omega) | (exfalso; simp_all; done) | skip
  skip
theorem c_law_FirstOrderS (p : List Int) (hq : p.length = 36) (v : Value) (xs : List (List Int)) (ha : Sli W0 [] 9 enI (.lit v) xs) (hx : ∀ x ∈ xs, x.length = 9) (hl : xs.length ≤ 1048576) (r : List Int) (hL : firstO p xs = some r) (K : Cont) (h0 : K (Bo true) []) : ACall Try.prog W0 5 [Pi p, .lit v] [] K := by
  refine by5 (Nat.le_of_ble_eq_true rfl) ?_
  have hz : ¬ ((1048576 : Int) - (xs.length : Nat) < 0) := by omega
  have h9 := jc_len9 hx
  obtain ⟨-, -, -, hrl, hl6⟩ := firstO_some hL
  repeat' ((conv => whnf); first | (refine Exists.intro (bQ p 37) (And.intro (by first | rfl | exact getx1 (k1 0 _ rfl) | exact getneO (getneO (getx1 (k2 0 _ (getx1 (k1 0 _ rfl)))) z0) z5) (And.intro rfl (And.intro (pic_le hq rfl) ?_))); rw [show (bQ p 37).cells = p.map I from rfl, pic_ld hq _ rfl]) | (refine Exists.intro ([] : List Nat) ?_) | (refine And.intro rfl ?_) | (refine And.intro (by decide +kernel) ?_) | (refine And.intro trivial ?_) | (refine d_szPrintS (ha := sli_up ha) (hl := by omega) (hm := by decide) (h0 := ?_) .. <;> try rw [if_neg hz]) | (refine d_toPicture (hq := hq) (h0 := ?_) ..) | (refine d_toPrintS (hs := sli_up ha) (hx := hx) (hl := by omega) (h0 := ?_) ..) | (refine d_sFirstS (hq := hq) (ha := sli_rows hx rfl) (hx := hx) (hL := hL) (h0 := fun S1 b1 v1 c1 B1 e1 e2 e3 e4 e5 e6 k1 => ?_) ..; have z1 := getElem?_lt (k1 1 _ rfl); have z2 := getElem?_lt e1; have z0 : S1.length ≠ 0 := (by omega)) | (have zz := f1; refine d_FirstS (hq := hq) (ha := sli_rows hx getl) (hx := hx) (hL := hL) (h0 := fun S6 b3 v3 c3 B3 g1 g2 g3 g4 g5 g6 k6 => ?_) ..) | (refine d_FirstS (hq := hq) (ha := sli_rows hx getl) (hx := hx) (hL := hL) (h0 := fun S2 b2 v2 c2 B2 f1 f2 f3 f4 f5 f6 k2 => ?_) ..; simp only [List.length_append, List.length_cons, List.length_nil] at f6; have z5 : b2 ≠ 0 := (by omega)) | (refine d_eqIntS (ha := Ord1.sli (l := r) ⟨b3, v3, c3, B3, rfl, g1, g3, g2, g4, g5⟩) (hb' := Ord1.sli (l := r) ⟨b1, v1, c1, B1, rfl, k6 _ _ (getx1 (getneO (getneO (getx1 (k2 _ _ (getx1 e1))) (by omega)) (by omega))), e3, e2, e4, e5⟩) (hl := by omega) (h0 := ?_) ..) | (refine d_eqIntS (ha := Ord1.sli (l := r) ⟨b2, v2, c2, B2, rfl, f1, f3, f2, f4, f5⟩) (hb' := Ord1.sli (l := r) ⟨b1, v1, c1, B1, rfl, k2 _ _ (getx1 e1), e3, e2, e4, e5⟩) (hl := by omega) (h0 := ?_) ..) | (refine d_eqIntS (ha := Ord1.sli (l := r) ⟨b2, v2, c2, B2, rfl, getneO (getx1 f1) (by omega), f3, f2, f4, f5⟩) (hb' := Ord1.sli (l := r) ⟨b1, v1, c1, B1, rfl, getneO (getx1 (k2 _ _ (getx1 e1))) (by omega), e3, e2, e4, e5⟩) (hl := by omega) (h0 := ?_) ..) | (refine d_eqPrintS (ha := sli_rows hx (getx1 (k2 _ _ getl))) (hb' := sli_rows hx getl) (hx := hx) (hl := by omega) (h0 := ?_) ..) | (refine d_markPrintS (B := prB xs) (hB := getx1 (k2 _ _ getl)) (hv := rfl) (hn := h9) (hn2 := by omega) (hk := by omega) (h0 := ?_) ..) | (refine d_markIntS (B := B2) (hB := getneO (getx1 f1) (by omega)) (hv := f2) (hn := by rw [f3, List.length_map]; exact Nat.le_refl _) (hn2 := by omega) (hk := by omega) (h0 := ?_) ..) | (refine d_heldIntS (ha := sli_marks2 (B := B2) (get_set (getneO (getx1 f1) (by omega))) f2) (hn2 := by omega) (hk := by omega) (h0 := ?_) ..) | (refine d_heldIntS (ha := sli_marks2 (B := B2) (k6 _ _ (getx1 (get_set (getneO (getx1 f1) (by omega))))) f2) (hn2 := by omega) (hk := by omega) (h0 := ?_) ..) | (refine Exists.intro _ (And.intro rfl (And.intro rfl (And.intro (Nat.le_of_ble_eq_true rfl) ?_)))) | (refine Exists.intro _ (And.intro rfl (And.intro rfl (And.intro rfl (And.intro (Nat.le_of_ble_eq_true rfl) ?_))))) | (refine And.intro (Exists.intro _ (And.intro rfl rfl)) ?_) | (exact fun hW => absurd hW (by decide +kernel)) | (intro hW; (try simp only [Bool.not_true, Bool.not_false, Bool.not_eq_true', Bool.not_eq_false', decide_eq_true_eq, decide_eq_false_iff_not, reduceCtorEq, Bool.true_eq_false, Bool.false_eq_true, mk_size, List.size_toArray, ByteArray.size_append, ByteArray.size_extract, List.length_cons, List.length_nil, ba_get, ba_empty, Int.toNat_natCast] at hW)) | (refine And.intro (?_ : _ → _) (?_ : _ → _)) | (refine FinR.drop 0 (Nat.zero_le _) (Closed.zero _) rfl ?_) | (refine FinR.keep ?_) | (refine And.intro (det3_agg rfl) ?_) | (refine fL_mk ?_) | (refine And.intro (by (try simp only [mk_size, List.size_toArray, ByteArray.size_append, ByteArray.size_extract, List.length_cons, List.length_nil]); omega) ?_) | (refine And.intro (by (try simp only [mk_size, List.size_toArray, ByteArray.size_append, ByteArray.size_extract, List.length_cons, List.length_nil, wrap64_eq]); omega) ?_) | fail)
  all_goals first | exact h0 | (exfalso; omega) | (exfalso; simp_all; done) | skip
  skip
theorem c_law_FirstOrderQ (p : List Int) (hq : p.length = 36) (v : Value) (xs : List (List Int)) (ha : Sli W0 [] 9 enI (.lit v) xs) (hx : ∀ x ∈ xs, x.length = 9) (hm : xs.length ≤ maxLen) (K : Cont) (h0 : K (Bo true) []) : ACall Try.prog W0 5 [Pi p, .lit v] [] K := by
  have hm' : xs.length ≤ 9223372036854775807 := hm
  by_cases hl : xs.length ≤ 1048576
  · cases hL : firstO p xs with
    | none => exact c_law_FirstOrderN p hq v xs ha hx hl hL K h0
    | some r => exact c_law_FirstOrderS p hq v xs ha hx hl r hL K h0
  · refine by5 (Nat.le_of_ble_eq_true rfl) ?_
    have hz : ((1048576 : Int) - (xs.length : Nat) < 0) := by omega
    repeat' ((conv => whnf); first | (refine Exists.intro (bQ p 37) (And.intro (by rfl) (And.intro rfl (And.intro (pic_le hq rfl) ?_))); rw [show (bQ p 37).cells = p.map I from rfl, pic_ld hq _ rfl]) | (refine Exists.intro ([] : List Nat) ?_) | (refine And.intro rfl ?_) | (refine And.intro (by decide +kernel) ?_) | (refine And.intro trivial ?_) | (refine d_szPrintS (ha := sli_up ha) (hl := hm') (hm := by decide) (h0 := ?_) .. <;> try rw [if_pos hz]) | (refine Exists.intro _ (And.intro rfl (And.intro rfl (And.intro (Nat.le_of_ble_eq_true rfl) ?_)))) | (refine Exists.intro _ (And.intro rfl (And.intro rfl (And.intro rfl (And.intro (Nat.le_of_ble_eq_true rfl) ?_))))) | (refine And.intro (Exists.intro _ (And.intro rfl rfl)) ?_) | (exact fun hW => absurd hW (by decide +kernel)) | (intro hW; (try simp only [Bool.not_true, Bool.not_false, Bool.not_eq_true', Bool.not_eq_false', decide_eq_true_eq, decide_eq_false_iff_not, reduceCtorEq, Bool.true_eq_false, Bool.false_eq_true, mk_size, List.size_toArray, ByteArray.size_append, ByteArray.size_extract, List.length_cons, List.length_nil, ba_get, ba_empty, Int.toNat_natCast] at hW)) | (refine And.intro (?_ : _ → _) (?_ : _ → _)) | (refine FinR.drop 0 (Nat.zero_le _) (Closed.zero _) rfl ?_) | (refine FinR.keep ?_) | (refine And.intro (det3_agg rfl) ?_) | (refine fL_mk ?_) | (refine And.intro (by (try simp only [mk_size, List.size_toArray, ByteArray.size_append, ByteArray.size_extract, List.length_cons, List.length_nil]); omega) ?_) | (refine And.intro (by (try simp only [mk_size, List.size_toArray, ByteArray.size_append, ByteArray.size_extract, List.length_cons, List.length_nil, wrap64_eq]); omega) ?_) | fail)
    all_goals first | exact h0 | (exfalso; omega) | (exfalso; simp_all; done)
theorem c_law_FirstOrder (a0 : Int) (ha0 : IntKind.i64.has a0) (a1 : Int) (ha1 : IntKind.i64.has a1) (a2 : Int) (ha2 : IntKind.i64.has a2) (a3 : Int) (ha3 : IntKind.i64.has a3) (a4 : Int) (ha4 : IntKind.i64.has a4) (a5 : Int) (ha5 : IntKind.i64.has a5) (a6 : Int) (ha6 : IntKind.i64.has a6) (a7 : Int) (ha7 : IntKind.i64.has a7) (a8 : Int) (ha8 : IntKind.i64.has a8) (a9 : Int) (ha9 : IntKind.i64.has a9) (a10 : Int) (ha10 : IntKind.i64.has a10) (a11 : Int) (ha11 : IntKind.i64.has a11) (a12 : Int) (ha12 : IntKind.i64.has a12) (a13 : Int) (ha13 : IntKind.i64.has a13) (a14 : Int) (ha14 : IntKind.i64.has a14) (a15 : Int) (ha15 : IntKind.i64.has a15) (a16 : Int) (ha16 : IntKind.i64.has a16) (a17 : Int) (ha17 : IntKind.i64.has a17) (a18 : Int) (ha18 : IntKind.i64.has a18) (a19 : Int) (ha19 : IntKind.i64.has a19) (a20 : Int) (ha20 : IntKind.i64.has a20) (a21 : Int) (ha21 : IntKind.i64.has a21) (a22 : Int) (ha22 : IntKind.i64.has a22) (a23 : Int) (ha23 : IntKind.i64.has a23) (a24 : Int) (ha24 : IntKind.i64.has a24) (a25 : Int) (ha25 : IntKind.i64.has a25) (a26 : Int) (ha26 : IntKind.i64.has a26) (a27 : Int) (ha27 : IntKind.i64.has a27) (a28 : Int) (ha28 : IntKind.i64.has a28) (a29 : Int) (ha29 : IntKind.i64.has a29) (a30 : Int) (ha30 : IntKind.i64.has a30) (a31 : Int) (ha31 : IntKind.i64.has a31) (a32 : Int) (ha32 : IntKind.i64.has a32) (a33 : Int) (ha33 : IntKind.i64.has a33) (a34 : Int) (ha34 : IntKind.i64.has a34) (a35 : Int) (ha35 : IntKind.i64.has a35) (v : Value) (xs : List (List Int)) (ha : Sli W0 [] 9 enI (.lit v) xs) (hxx : ∀ x ∈ xs, x.length = 9 ∧ ∀ n ∈ x, IntKind.i64.has n) (hm : xs.length ≤ maxLen) (K : Cont) (h0 : K (Bo true) []) : ACall Try.prog W0 5 [Pi (a0 :: a1 :: a2 :: a3 :: a4 :: a5 :: a6 :: a7 :: a8 :: a9 :: a10 :: a11 :: a12 :: a13 :: a14 :: a15 :: a16 :: a17 :: a18 :: a19 :: a20 :: a21 :: a22 :: a23 :: a24 :: a25 :: a26 :: a27 :: a28 :: a29 :: a30 :: a31 :: a32 :: a33 :: a34 :: a35 :: []), .lit v] [] K :=
  c_law_FirstOrderQ _ rfl v xs ha (fun x h => (hxx x h).1) hm K h0
end Go.Proofs.Ytbbmlnaekefaaaa
end
