/- The document's slots: sorted lists, what comes next. The plain mathematics. Conditions: none. -/
import Derived.Test.YtblipnjjgbggiaaRing
import Derived.Lib.TrailingZeros
namespace Go.Proofs.Ytblipnjjgbggiaa
open Go Go.RowKit
set_option linter.unusedVariables false
set_option linter.unusedSectionVars false
set_option linter.unusedSimpArgs false
def ltR (a b : RThing) : Prop := a.due < b.due ∨ (a.due = b.due ∧ a.id < b.id)
instance (a b : RThing) : Decidable (ltR a b) := by unfold ltR; infer_instance
def ltRB (a b : RThing) : Bool := decide (ltR a b)
def sortR (L : List RThing) : List RThing := isort ltRB L
theorem sortR_perm (L : List RThing) : (sortR L).Perm L := isort_perm L
theorem sortR_len (L : List RThing) : (sortR L).length = L.length := (sortR_perm L).length_eq
theorem ltRB_plain (a b : RThing) : ltRB a b = ltB (plainR a) (plainR b) := rfl
theorem sortR_plain (L : List RThing) : (sortR L).map plainR = sortT (L.map plainR) := map_isort plainR ltRB_plain L
/-- In order. -/
def Up (L : List RThing) : Prop := L.Pairwise fun a b => ¬ ltR b a
section
variable {L A B : List RThing} {x : RThing} {i j : Int}
theorem ins_at : ∀ (A : List RThing), (∀ y, y ∈ A → ¬ ltR x y) → (∀ y, y ∈ B → ltR x y) → ins ltRB x (A ++ B) = A ++ x :: B
  | [], _, hB => by
    cases B with
    | nil => rfl
    | cons b B => simp [ins, ltRB, hB b (by simp)]
  | a :: A, hA, hB => by
    have ha : ltRB x a = false := decide_eq_false (hA a (by simp))
    show (if ltRB x a then _ else a :: ins ltRB x (A ++ B)) = _
    rw [ha, ins_at A (fun y hy => hA y (by simp [hy])) hB]; rfl
theorem ltR_trans {a b c : RThing} (h : ¬ ltR b a) (h' : ¬ ltR c b) : ¬ ltR c a := by unfold ltR at *; omega
theorem ltR_le {a b c : RThing} (h : ltR a b) (h' : ¬ ltR c b) : ltR a c := by unfold ltR at *; omega
theorem ltR_asymm {a b : RThing} (h : ltR a b) : ¬ ltR b a := by unfold ltR at *; omega
theorem up_ins (h : Up L) (x : RThing) : Up (ins ltRB x L) := by
  induction L with
  | nil => simp [ins, Up]
  | cons a L ih =>
    have hc := List.pairwise_cons.mp h
    show Up (if ltRB x a then x :: a :: L else a :: ins ltRB x L)
    by_cases hx : ltR x a
    · rw [show ltRB x a = true from decide_eq_true hx, if_pos rfl]
      refine List.pairwise_cons.mpr ⟨fun b hb => ?_, h⟩
      rcases List.mem_cons.mp hb with rfl | hb
      · exact ltR_asymm hx
      · exact ltR_asymm (ltR_le hx (hc.1 b hb))
    · rw [show ltRB x a = false from decide_eq_false hx, if_neg (by simp)]
      refine List.pairwise_cons.mpr ⟨fun b hb => ?_, ih hc.2⟩
      rcases List.mem_cons.mp ((ins_perm L).mem_iff.mp hb) with rfl | hb
      · exact hx
      · exact hc.1 b hb
theorem up_foldl : ∀ (L o : List RThing), Up o → Up (L.foldl (fun o x => ins ltRB x o) o)
  | [], o, h => h
  | x :: L, o, h => up_foldl L _ (up_ins h x)
theorem up_sortR (L : List RThing) : Up (sortR L) := up_foldl L [] List.Pairwise.nil
theorem sortR_snoc (h0 : 0 ≤ i) (h1 : i < L.length) : sortR (L.take (i + 1).toNat) = ins ltRB (gt L i) (sortR (L.take i.toNat)) := by
  rw [take_gt h0 h1]; simp [sortR, isort]
/-- Where the new one belongs, seen from behind. -/
theorem ins_back {O : List RThing} (h : Up O) (h0 : 0 ≤ j) (h1 : j ≤ O.length) (hb : ∀ k : Int, j ≤ k → k < O.length → ltR x (gt O k)) (ha : j = 0 ∨ ¬ ltR x (gt O (j - 1))) : ins ltRB x O = O.take j.toNat ++ x :: O.drop j.toNat := by
  conv => lhs; rw [← List.take_append_drop j.toNat O]
  refine ins_at _ (fun y hy => ?_) (fun y hy => ?_)
  · obtain ⟨q, hq, e⟩ := List.mem_iff_getElem.mp hy
    rw [List.length_take] at hq
    rw [List.getElem_take] at e
    rcases ha with ha | ha
    · omega
    · by_cases hl : q = j.toNat - 1
      · have : gt O (j - 1) = y := by rw [gt_eq (by omega) (by omega)]; rw [← e]; congr 1; omega
        rw [← this]; exact ha
      · have hlt : q < j.toNat - 1 := by omega
        have hp := List.pairwise_iff_getElem.mp h q (j.toNat - 1) (by omega) (by omega) hlt
        have e2 : O[j.toNat - 1]'(by omega) = gt O (j - 1) := by rw [gt_eq (by omega) (by omega)]; congr 1; omega
        rw [e, e2] at hp
        exact fun hxy => ha (ltR_le hxy hp)
  · obtain ⟨q, hq, e⟩ := List.mem_iff_getElem.mp hy
    rw [List.length_drop] at hq
    rw [List.getElem_drop] at e
    have := hb (j.toNat + q : Nat) (by omega) (by omega)
    rw [gt_eq (by omega) (by omega)] at this
    simp only [Int.toNat_natCast] at this
    rwa [e] at this
end
/-! ### calls -/
def rOr (o : Option RThing) : RThing := o.getD ⟨0, 0, 0, 0⟩
def takeR (W : List RThing) (k : Int) : List RThing := W.filter fun r => decide (r.slot = k)
theorem takeR_plain (W : List RThing) (k : Int) : (sortR (takeR W k)).map plainR = sortT (slotL W k) := sortR_plain _
theorem idxR_neg {id : Int} {W : List RThing} (h : idxR id W < 0) : findR id W = none := by
  cases hf : findR id W with
  | none => rfl
  | some r => have := idxR_some hf; omega
theorem idxR_pos {id : Int} {W : List RThing} (h : ¬ idxR id W < 0) : ∃ r, findR id W = some r := by
  cases hf : findR id W with
  | none => rw [idxR_none hf] at h; omega
  | some r => exact ⟨r, rfl⟩
theorem dropR_none {id : Int} {W : List RThing} (h : findR id W = none) : dropR id W = W := by
  unfold dropR
  rw [List.eraseP_of_forall_not]
  intro r hr
  have := findR_none.mp h r hr
  simpa using this
theorem dropR_le (id : Int) (W : List RThing) : (dropR id W).length ≤ W.length := List.eraseP_sublist.length_le
theorem leftR_le (W : List RThing) (k : Int) : (leftR W k).length ≤ W.length := List.length_filter_le _ _
theorem takeR_le (W : List RThing) (k : Int) : (takeR W k).length ≤ W.length := List.length_filter_le _ _
theorem putV_le (W : List RThing) (s : Int) (t : Thing) : (putV W s t).1.length ≤ W.length + 1 := by
  unfold putV; split
  · exact Nat.le_succ _
  · split
    · exact Nat.le_succ _
    · simp
theorem filter_snoc {α : Type} [Inhabited α] (p : α → Bool) {L : List α} {i : Int} (h0 : 0 ≤ i) (h1 : i < L.length) : (L.take (i + 1).toNat).filter p = (L.take i.toNat).filter p ++ if p (gt L i) then [gt L i] else [] := by
  rw [take_gt h0 h1, List.filter_append]
  congr 1
  by_cases h : p (gt L i) <;> simp [h]
theorem usedN_snoc {W : List RThing} {i : Int} (h0 : 0 ≤ i) (h1 : i < W.length) : usedN (W.take (i + 1).toNat) = usedN (W.take i.toNat) ||| 2 ^ (gt W i).slot.toNat := by
  rw [take_gt h0 h1]; simp [usedN]
theorem tmod64 (f : Int) : f.tmod 64 = if f.tmod 64 < 0 then f % 64 - 64 else f % 64 := by
  rcases Int.le_total 0 f with h | h
  · rw [Int.tmod_eq_emod_of_nonneg h, if_neg (by omega)]
  · obtain ⟨q, rfl⟩ : ∃ q, f = -q := ⟨-f, by omega⟩
    rw [Int.neg_tmod, Int.tmod_eq_emod_of_nonneg (by omega)]
    split <;> omega
theorem tmod64_pos {f : Int} (h : 0 ≤ f) : f.tmod 64 = f % 64 := Int.tmod_eq_emod_of_nonneg h
/-! ### what comes next -/
/-- The least number from j on, within n, at which p holds. -/
def nxt (p : Nat → Bool) : Nat → Nat → Option Nat
  | _, 0 => none
  | j, n + 1 => if p j then some j else nxt p (j + 1) n
theorem nxt_some {p : Nat → Bool} : ∀ (n j k : Nat), j ≤ k → k < j + n → p k = true → (∀ i, j ≤ i → i < k → p i = false) → nxt p j n = some k
  | 0, j, k, h0, h1, _, _ => by omega
  | n + 1, j, k, h0, h1, h2, h3 => by
    unfold nxt
    by_cases h : j = k
    · subst h; rw [if_pos h2]
    · rw [if_neg (by rw [h3 j (by omega) (by omega)]; simp)]
      exact nxt_some n (j + 1) k (by omega) (by omega) h2 (fun i h4 h5 => h3 i (by omega) h5)
theorem nxt_none {p : Nat → Bool} : ∀ (n j : Nat), (∀ i, j ≤ i → i < j + n → p i = false) → nxt p j n = none
  | 0, _, _ => rfl
  | n + 1, j, h => by
    unfold nxt
    rw [if_neg (by rw [h j (by omega) (by omega)]; simp)]
    exact nxt_none n (j + 1) (fun i h4 h5 => h i (by omega) (by omega))
def hasS (W : List RThing) (k : Int) : Bool := W.any fun r => decide (r.slot = k)
def nextO (W : List RThing) (f : Int) : Option Nat := nxt (fun s => hasS W ((f % 64 + s) % 64)) 0 64
def nextT (W : List RThing) (f : Int) : Value := match nextO W f with
  | none => .tuple #[.int .i64 0, .int .i64 0, .bool false]
  | some s => .tuple #[.int .i64 ((f % 64 + s) % 64), .int .i64 s, .bool true]
section
variable {W : List RThing} {f s i : Int}
theorem nxt_step {p : Nat → Bool} {s : Int} (h0 : 0 ≤ s) (h1 : s < 64) (h : p s.toNat = false) : nxt p s.toNat (64 - s).toNat = nxt p (s + 1).toNat (64 - (s + 1)).toNat := by
  have e : (64 - s).toNat = (64 - (s + 1)).toNat + 1 := by omega
  rw [e]
  show (if p s.toNat then _ else _) = _
  rw [if_neg (by rw [h]; simp), show s.toNat + 1 = (s + 1).toNat by omega]
theorem nxt_hit {p : Nat → Bool} {s : Int} (h0 : 0 ≤ s) (h1 : s < 64) (h : p s.toNat = true) : nxt p s.toNat (64 - s).toNat = some s.toNat := by
  have e : (64 - s).toNat = (64 - (s + 1)).toNat + 1 := by omega
  rw [e]
  show (if p s.toNat then _ else _) = _
  rw [if_pos h]
theorem hasS_any (h0 : 0 ≤ i) (h1 : i < W.length) {k : Int} (h : (gt W i).slot = k) : hasS W k = true := List.any_eq_true.mpr ⟨_, gt_mem h0 h1, decide_eq_true h⟩
theorem hasS_slot (k : Int) : hasS W k = decide (slotL W k ≠ []) := by
  unfold hasS slotL
  rw [Bool.eq_iff_iff]
  simp only [List.any_eq_true, decide_eq_true_eq, ne_eq, List.map_eq_nil_iff, List.filter_eq_nil_iff]
  constructor
  · rintro ⟨r, hr, e⟩ h; exact h r hr e
  · intro h
    apply Classical.byContradiction
    intro h2
    exact h fun r hr e => h2 ⟨r, hr, e⟩
end
def nextA (W : List RThing) (f : Int) : Int × Int × Bool := match nextO W f with
  | none => (0, 0, false)
  | some s => ((f % 64 + s) % 64, s, true)
theorem nextT_eq (W : List RThing) (f : Int) : nextT W f = .tuple #[.int .i64 (nextA W f).1, .int .i64 (nextA W f).2.1, .bool (nextA W f).2.2] := by
  unfold nextT nextA; cases nextO W f <;> rfl
/-- What waits behind a call of the law. -/
def doV (W : List RThing) (o : SOp) : List RThing := if o.kind = 1 then dropR o.th.id W else if o.kind = 2 then leftR W o.slot else if o.kind = 3 then W else if o.kind = 4 then W else (putV W o.slot o.th).1
theorem doV_le (W : List RThing) (o : SOp) : (doV W o).length ≤ W.length + 1 := by
  unfold doV
  split
  · exact Nat.le_succ_of_le (dropR_le _ _)
  · split
    · exact Nat.le_succ_of_le (leftR_le _ _)
    · split
      · exact Nat.le_succ _
      · split
        · exact Nat.le_succ _
        · exact putV_le _ _ _
theorem RingL.wf {TR TE : TypeId} {d : Nat} {W : List RThing} {L : List Res} (h : RingL TR TE d W L) : Wf W := by obtain ⟨m, Z, u, E, ck, hR, _⟩ := h; exact hR.wf
theorem rd_one {α : Type} [Inhabited α] {enc : α → List Value} {w : World} {A : Option Addr} {sz c : Nat} {L : List α} {i : Int} (h : Rd w A sz (L.map enc)) (hn : L.length ≤ c) (h0 : 0 ≤ i) (h1 : i < L.length) : Rd w (if c = i.toNat then A else A.map (·.add (i.toNat * sz))) sz ([gt L i].map enc) := by
  have h2 := (rd_drop h hn i.toNat).take_ (k := 1)
  rw [drop_gt h0 h1] at h2
  exact h2
theorem upd_emp_rdr (w : World) (sz : Nat) : Upd w emp (rdr none sz []) w := ⟨rfl, rfl, rfl, Nat.le_refl _, fun _ _ _ => rfl, ⟨Rd.nil, fun a ha => by cases ha⟩, fun b hb => hb.elim⟩
theorem gt_map {α β : Type} [Inhabited α] [Inhabited β] (f : α → β) {L : List α} {i : Int} (h0 : 0 ≤ i) (h1 : i < L.length) : gt (L.map f) i = f (gt L i) := by
  rw [gt_eq h0 (by simpa using h1), gt_eq h0 h1]; simp
theorem gt_take {α : Type} [Inhabited α] {L : List α} {i k : Int} (h0 : 0 ≤ i) (h1 : i < k) (h2 : k ≤ L.length) : gt (L.take k.toNat) i = gt L i := by
  rw [gt_eq h0 (by rw [List.length_take]; omega), gt_eq h0 (by omega)]; simp
theorem sort_plain (L : List Thing) : sortT L = (sortR (L.map (toR · 0))).map plainR := by
  rw [sortR_plain, List.map_map]
  congr 1
  exact (List.map_id L).symm
/-! ### the words' bits -/
def rotN (u a : Nat) : Nat := (u <<< ((64 - a) % 64)) % 2 ^ 64 ||| (u >>> (64 - (64 - a) % 64))
theorem rotN_bit (u a j : Nat) (hu : u < 2 ^ 64) (ha : a < 64) (hj : j < 64) : (rotN u a).testBit j = u.testBit ((a + j) % 64) := by
  unfold rotN
  rw [Nat.testBit_or, Nat.testBit_mod_two_pow, Nat.testBit_shiftLeft, Nat.testBit_shiftRight]
  by_cases h0 : a = 0
  · subst h0
    have e1 : (64 - 0) % 64 = 0 := rfl
    rw [e1, Nat.sub_zero, Nat.sub_zero, Nat.zero_add, Nat.mod_eq_of_lt hj]
    have : u.testBit (64 + j) = false := Nat.testBit_lt_two_pow (Nat.lt_of_lt_of_le hu (Nat.pow_le_pow_right (by decide) (by omega)))
    simp [hj, this]
  · have e1 : (64 - a) % 64 = 64 - a := Nat.mod_eq_of_lt (by omega)
    rw [e1, show 64 - (64 - a) = a by omega]
    by_cases h1 : 64 - a ≤ j
    · have e2 : (a + j) % 64 = j - (64 - a) := by omega
      have : u.testBit (a + j) = false := Nat.testBit_lt_two_pow (Nat.lt_of_lt_of_le hu (Nat.pow_le_pow_right (by decide) (by omega)))
      rw [e2]; simp [hj, h1, this]
    · have e2 : (a + j) % 64 = a + j := Nat.mod_eq_of_lt (by omega)
      rw [e2]; simp [hj, h1]
theorem rotN_lt (u a : Nat) (hu : u < 2 ^ 64) : rotN u a < 2 ^ 64 := by
  unfold rotN
  refine Nat.or_lt_two_pow (Nat.mod_lt _ (by decide)) ?_
  exact Nat.lt_of_le_of_lt (Nat.shiftRight_le _ _) hu
theorem ctz_bits {x : Nat} (h0 : x ≠ 0) (h : x < 2 ^ 64) : x.testBit (Go.Lib.ctz 64 x) = true ∧ Go.Lib.ctz 64 x < 64 ∧ ∀ i, i < Go.Lib.ctz 64 x → x.testBit i = false := by
  obtain ⟨m, hm, hk⟩ := Go.Lib.ctzFrom_spec 64 x (by omega) h
  have e : Go.Lib.ctz 64 x = Go.Lib.ctzFrom 64 x := by simp [Go.Lib.ctz, h0]
  rw [e]
  generalize Go.Lib.ctzFrom 64 x = k at hm hk
  subst hm
  refine ⟨?_, hk, fun i hi => ?_⟩
  · rw [Nat.mul_comm, Nat.testBit_mul_two_pow]; simp
  · rw [Nat.mul_comm, Nat.testBit_mul_two_pow]; simp; omega
theorem nextO_prog {W : List RThing} {f : Int} (hw : Wf W) (hn : usedN W ≠ 0) : nextO W f = some (Go.Lib.ctz 64 (rotN (usedN W) (f % 64).toNat)) ∧ rotN (usedN W) (f % 64).toNat ≠ 0 := by
  have hu := usedN_lt hw
  have ha : (f % 64).toNat < 64 := by omega
  have hbit : ∀ j : Nat, j < 64 → (rotN (usedN W) (f % 64).toNat).testBit j = hasS W ((f % 64 + j) % 64) := by
    intro j hj
    rw [rotN_bit _ _ _ hu ha hj, hasS_slot, ← usedN_slot hw (by omega)]
    congr 1; omega
  have hne : rotN (usedN W) (f % 64).toNat ≠ 0 := by
    intro h
    apply hn
    refine Nat.eq_of_testBit_eq fun i => ?_
    rw [Nat.zero_testBit]
    by_cases hi : i < 64
    · have := rotN_bit (usedN W) (f % 64).toNat ((i + 64 - (f % 64).toNat) % 64) hu ha (Nat.mod_lt _ (by decide))
      rw [h, Nat.zero_testBit] at this
      rw [show ((f % 64).toNat + (i + 64 - (f % 64).toNat) % 64) % 64 = i by omega] at this
      exact this.symm
    · exact Nat.testBit_lt_two_pow (Nat.lt_of_lt_of_le hu (Nat.pow_le_pow_right (by decide) (by omega)))
  obtain ⟨h1, h2, h3⟩ := ctz_bits hne (rotN_lt _ _ hu)
  refine ⟨nxt_some 64 0 _ (by omega) (by omega) ?_ (fun i _ hi => ?_), hne⟩
  · have := hbit _ h2; rw [h1] at this; exact this.symm
  · have := hbit i (by omega); rw [h3 i hi] at this; exact this.symm
theorem nextO_nil {W : List RThing} {f : Int} (hw : Wf W) (hn : usedN W = 0) : nextO W f = none := by
  have : W = [] := (usedN_zero hw).mp hn
  subst this
  exact nxt_none _ _ (fun i _ _ => rfl)
end Go.Proofs.Ytblipnjjgbggiaa
