/- Almanacs: the plain mathematics, and how one lies in memory. Conditions: none. -/
import Derived.Test.YtnmglobfdlnenaaSpL
import Derived.Test.YtnmglobfdlnenaaFacts
namespace Go.Proofs.Ytnmglobfdlnenaa
open Go Go.RowKit
set_option linter.unusedVariables false
set_option linter.unusedSimpArgs false
/-! ### what comes next -/
theorem idx_find {α : Type} [Inhabited α] {p : α → Bool} : ∀ (L : List α) (i : Int), 0 ≤ i → (idxFrom p i L < 0 ∧ L.find? p = none) ∨ (i ≤ idxFrom p i L ∧ idxFrom p i L < i + L.length ∧ L.find? p = some (gt L (idxFrom p i L - i)))
  | [], i, _ => .inl ⟨by simp [idxFrom], rfl⟩
  | s :: L, i, h => by
    unfold idxFrom
    by_cases hs : p s = true
    · rw [if_pos hs, List.find?_cons_of_pos hs]
      refine .inr ⟨by omega, by simp; omega, ?_⟩
      rw [show i - i = 0 by omega]; rfl
    · rw [if_neg hs, List.find?_cons_of_neg hs]
      rcases idx_find L (i + 1) (by omega) with ⟨h1, h2⟩ | ⟨h1, h2, h3⟩
      · exact .inl ⟨h1, h2⟩
      · refine .inr ⟨by omega, by simp; omega, ?_⟩
        rw [h3]
        congr 1
        rw [gt_eq (by omega) (by omega), gt_eq (by omega) (by simp; omega)]
        have e : (idxFrom p (i + 1) L - i).toNat = (idxFrom p (i + 1) L - (i + 1)).toNat + 1 := by omega
        simp only [e, List.getElem_cons_succ]
def isNext (x : Int) (s : Sp) : Bool := decide (x < s.2)
def nextO (L : List Sp) (x : Int) : Option Sp := L.find? (isNext x)
def nextT (o : Option Sp) : Value := .tuple #[.agg #[.int .i64 (o.getD (0, 0)).1, .int .i64 (o.getD (0, 0)).2], .bool o.isSome]
theorem next_step {L : List Sp} {x i : Int} (h0 : 0 ≤ i) (h1 : i < L.length) (h : isNext x (gt L i) = false) : nextO (L.drop i.toNat) x = nextO (L.drop (i + 1).toNat) x := by
  rw [drop_gt h0 h1]; unfold nextO; rw [List.find?_cons_of_neg (by rw [h]; decide)]
theorem next_hit {L : List Sp} {x i : Int} (h0 : 0 ≤ i) (h1 : i < L.length) (h : isNext x (gt L i) = true) : nextO (L.drop i.toNat) x = some (gt L i) := by
  rw [drop_gt h0 h1]; unfold nextO; rw [List.find?_cons_of_pos h]
def closedV (L : List Sp) (x : Int) : Bool := (nextO L x).isSome && decide (((nextO L x).getD (0, 0)).1 ≤ x)
theorem next_good : ∀ {L : List Sp} {e x : Int}, good e L = true → closedV L x = L.any (hasIn x)
  | [], _, _, _ => rfl
  | s :: L, e, x, h => by
    simp only [good, Bool.and_eq_true, decide_eq_true_eq] at h
    have hr := h.1
    unfold RightP at hr
    rw [List.any_cons]
    by_cases hx : x < s.2
    · have e1 : nextO (s :: L) x = some s := by unfold nextO; exact List.find?_cons_of_pos (decide_eq_true hx)
      unfold closedV
      rw [e1]
      by_cases h1 : s.1 ≤ x
      · rw [show hasIn x s = true from decide_eq_true ⟨h1, hx⟩]; simp [h1]
      · rw [show hasIn x s = false from decide_eq_false (by omega)]
        have : L.any (hasIn x) = false := by
          cases ha : L.any (hasIn x) with
          | false => rfl
          | true => have := good_cov h.2.2 (cov_any.mp ha); omega
        rw [this]; simp [h1]
    · have e1 : nextO (s :: L) x = nextO L x := by unfold nextO; exact List.find?_cons_of_neg (by simpa [isNext] using hx)
      have ih := next_good (x := x) h.2.2
      unfold closedV at ih ⊢
      rw [e1, ih, show hasIn x s = false from decide_eq_false (by omega)]; rfl
theorem closed_has {L : List Sp} {x : Int} (h : rowV L = 0) : closedV L x = hasV L x := by
  rw [next_good (rowV_zero h).2]; unfold hasV; rw [decide_eq_true h, Bool.true_and]
/-! ### what is free -/
def freeR : List Sp → Int → Int → List Sp
  | [], a, b => if a < b then [(a, b)] else []
  | s :: L, a, b => (if a < s.1 ∧ a < b then [(a, min s.1 b)] else []) ++ freeR L (if a < s.2 then s.2 else a) b
def freeV (L : List Sp) (a b : Int) : List Sp := freeR L (max a 0) (min b 1125899906842624)
theorem free_step {L : List Sp} {a b i : Int} (h0 : 0 ≤ i) (h1 : i < L.length) : freeR (L.drop i.toNat) a b = (if a < (gt L i).1 ∧ a < b then [(a, min (gt L i).1 b)] else []) ++ freeR (L.drop (i + 1).toNat) (if a < (gt L i).2 then (gt L i).2 else a) b := by
  rw [drop_gt h0 h1]; rfl
theorem free_end {L : List Sp} {a b i : Int} (h : (L.length : Int) ≤ i) : freeR (L.drop i.toNat) a b = if a < b then [(a, b)] else [] := by rw [drop_end h]; rfl
theorem free_over : ∀ {L : List Sp} {a b : Int}, b ≤ a → freeR L a b = []
  | [], a, b, h => by unfold freeR; rw [if_neg (by omega)]
  | s :: L, a, b, h => by
    unfold freeR
    rw [if_neg (by omega), List.nil_append]
    exact free_over (by split <;> omega)
theorem free_len : ∀ (L : List Sp) (a b : Int), (freeR L a b).length ≤ L.length + 1
  | [], a, b => by unfold freeR; split <;> simp
  | s :: L, a, b => by
    have := free_len L (if a < s.2 then s.2 else a) b
    unfold freeR
    rw [List.length_append, List.length_cons]
    have h : (if a < s.1 ∧ a < b then [(a, min s.1 b)] else ([] : List Sp)).length ≤ 1 := by split <;> simp
    omega
theorem free_none : ∀ {L : List Sp} {e a b : Int}, good e L = true → a < b → nextO L a = none → freeR L a b = [(a, b)]
  | [], _, a, b, _, h, _ => by unfold freeR; rw [if_pos h]
  | s :: L, e, a, b, hg, h, hn => by
    simp only [good, Bool.and_eq_true, decide_eq_true_eq] at hg
    have hr := hg.1
    unfold RightP at hr
    have hs : ¬ a < s.2 := by
      intro hs
      unfold nextO at hn
      rw [List.find?_cons_of_pos (show isNext a _ = true from decide_eq_true hs)] at hn
      cases hn
    have hn' : nextO L a = none := by
      unfold nextO at hn ⊢
      rwa [List.find?_cons_of_neg (by simpa [isNext] using hs)] at hn
    unfold freeR
    rw [if_neg (by omega), if_neg hs, List.nil_append]
    exact free_none hg.2.2 h hn'
theorem free_some : ∀ {L : List Sp} {e a b : Int} {s : Sp}, good e L = true → a < b → nextO L a = some s → freeR L a b = (if a < min s.1 b then [(a, min s.1 b)] else []) ++ freeR L s.2 b
  | [], _, a, b, _, _, _, hn => by cases hn
  | x :: L, e, a, b, s, hg, h, hn => by
    simp only [good, Bool.and_eq_true, decide_eq_true_eq] at hg
    have hr := hg.1
    unfold RightP at hr
    by_cases hs : a < x.2
    · have e1 : s = x := by
        unfold nextO at hn
        rw [List.find?_cons_of_pos (show isNext a _ = true from decide_eq_true hs)] at hn
        injection hn with hn; exact hn.symm
      subst e1
      have e2 : freeR (s :: L) s.2 b = freeR L s.2 b := by
        conv => lhs; unfold freeR
        rw [if_neg (by omega), if_neg (by omega), List.nil_append]
      rw [e2]
      conv => lhs; unfold freeR
      rw [if_pos hs]
      congr 1
      by_cases hc : a < min s.1 b
      · rw [if_pos hc, if_pos (by omega)]
      · rw [if_neg hc, if_neg (by omega)]
    · have hn' : nextO L a = some s := by
        unfold nextO at hn ⊢
        rwa [List.find?_cons_of_neg (by simpa [isNext] using hs)] at hn
      have ih := free_some hg.2.2 h hn'
      have hsr : x.2 ≤ s.1 ∧ s.1 < s.2 := by
        have hm := List.mem_of_find?_eq_some hn'
        have := good_right hg.2.2 s hm
        unfold RightP at this
        omega
      have e2 : freeR (x :: L) s.2 b = freeR L s.2 b := by
        conv => lhs; unfold freeR
        rw [if_neg (by omega), if_neg (by omega), List.nil_append]
      rw [e2, ← ih]
      conv => lhs; unfold freeR
      rw [if_neg (by omega), if_neg hs, List.nil_append]
theorem next_lt {L : List Sp} {x : Int} {s : Sp} (h : nextO L x = some s) : x < s.2 := by
  have := List.find?_some h
  exact of_decide_eq_true this
/-- What is free, and what is not. -/
theorem free_props : ∀ {L : List Sp} {e a b : Int}, good e L = true → 0 ≤ a → b ≤ 1125899906842624 → ∀ t, t ∈ freeR L a b → a ≤ t.1 ∧ t.1 < t.2 ∧ t.2 ≤ b ∧ ∀ x, t.1 ≤ x → x < t.2 → ¬ cov L x
  | [], _, a, b, _, h0, h1, t, ht => by
    unfold freeR at ht
    split at ht
    · simp at ht; subst ht; exact ⟨by simp, by simpa, by simp, fun x _ _ => cov_nil⟩
    · cases ht
  | s :: L, e, a, b, hg, h0, h1, t, ht => by
    simp only [good, Bool.and_eq_true, decide_eq_true_eq] at hg
    have hr := hg.1
    unfold RightP at hr
    unfold freeR at ht
    rcases List.mem_append.mp ht with ht | ht
    · split at ht
      · simp at ht; subst ht
        refine ⟨by simp, by simp only; omega, by simp only; omega, fun x hx hx' hc => ?_⟩
        simp only at hx hx'
        rcases cov_cons.mp hc with hc | hc
        · omega
        · have := good_cov hg.2.2 hc; omega
      · cases ht
    · have ih := free_props hg.2.2 (by split <;> omega) h1 t ht
      refine ⟨by have := ih.1; split at this <;> omega, ih.2.1, ih.2.2.1, fun x hx hx' hc => ?_⟩
      rcases cov_cons.mp hc with hc | hc
      · have := ih.1; split at this <;> omega
      · exact ih.2.2.2 x hx hx' hc
theorem free_sum : ∀ {L : List Sp} {e a b : Int}, good e L = true → 0 ≤ a → a ≤ b → b ≤ 1125899906842624 → sumL (freeR L a b) + lies L a b = b - a
  | [], _, a, b, _, h0, h1, h2 => by
    unfold freeR lies
    split
    · simp [sumL]
    · simp [sumL]; omega
  | s :: L, e, a, b, hg, h0, h1, h2 => by
    have hg0 := hg
    simp only [good, Bool.and_eq_true, decide_eq_true_eq] at hg
    have hr := hg.1
    unfold RightP at hr
    have hsum : ∀ A B : List Sp, sumL (A ++ B) = sumL A + sumL B := by
      intro A B
      induction A with
      | nil => simp [sumL]
      | cons x A ih => simp [sumL, ih]; omega
    unfold freeR lies
    rw [hsum]
    by_cases hs : a < s.2
    · rw [if_pos hs]
      by_cases hb : s.2 ≤ b
      · have ih := free_sum (a := s.2) hg.2.2 (by omega) hb h2
        have e1 : lies L a b = lies L s.2 b := by
          clear ih hsum
          have key : ∀ (L : List Sp), (∀ t, t ∈ L → s.2 ≤ t.1) → lies L a b = lies L s.2 b := by
            intro L hL
            induction L with
            | nil => rfl
            | cons t L ihL =>
              have := hL t (by simp)
              unfold lies
              rw [ihL fun u hu => hL u (by simp [hu]), show max t.1 a = max t.1 s.2 by omega]
          exact key L fun t ht => (good_right hg.2.2 t ht).2
        rw [e1]
        split <;> split <;> simp [sumL] <;> omega
      · rw [free_over (by omega), lies_low hg.2.2 (by omega)]
        split <;> split <;> simp [sumL] <;> omega
    · rw [if_neg hs, if_neg (by omega), if_neg (by omega)]
      have ih := free_sum (a := a) hg.2.2 h0 h1 h2
      simp [sumL]; omega
theorem not_cov_closed {L : List Sp} {x : Int} (h : rowV L = 0) (hx : ¬ cov L x) : closedV L x = false := by
  rw [next_good (rowV_zero h).2]
  cases ha : L.any (hasIn x) with
  | false => rfl
  | true => exact absurd (cov_any.mp ha) hx
theorem lies_zero : ∀ {L : List Sp} {a b : Int}, (∀ x, a ≤ x → x < b → ¬ cov L x) → lies L a b = 0
  | [], _, _, _ => rfl
  | s :: L, a, b, h => by
    unfold lies
    rw [lies_zero fun x h1 h2 hc => h x h1 h2 (cov_cons.mpr (.inr hc)), if_neg ?_]
    · rfl
    · intro hc
      exact h (max s.1 a) (by omega) (by omega) (cov_cons.mpr (.inl (by omega)))
theorem sum_nn : ∀ {C : List Sp}, (∀ t, t ∈ C → t.1 < t.2) → 0 ≤ sumL C
  | [], _ => by simp [sumL]
  | s :: C, h => by
    have := sum_nn fun t ht => h t (List.mem_cons_of_mem s ht)
    have h1 := h s (by simp)
    unfold sumL; omega
/-! ### what is lost -/
def lostL (φ : Sp → Int) : Int → List Sp → Int
  | a, [] => a
  | a, s :: C => lostL φ (IntKind.i64.wrap (a + φ s)) C
theorem lost_step {φ : Sp → Int} {C : List Sp} {a i : Int} (h0 : 0 ≤ i) (h1 : i < C.length) : lostL φ a (C.drop i.toNat) = lostL φ (IntKind.i64.wrap (a + φ (gt C i))) (C.drop (i + 1).toNat) := by rw [drop_gt h0 h1]; rfl
theorem lost_end {φ : Sp → Int} {C : List Sp} {a i : Int} (h : (C.length : Int) ≤ i) : lostL φ a (C.drop i.toNat) = a := by rw [drop_end h]; rfl
def lostF (m b : Int) (s : Sp) : Int := IntKind.i64.wrap (IntKind.i64.wrap ((s.2 - s.1) * m) + b)
theorem lost_ref (a x b : Int) : IntKind.i64.wrap (IntKind.i64.wrap (a + x) + b) = IntKind.i64.wrap (a + IntKind.i64.wrap (x + b)) := by
  simp only [IntKind.wrap_i64]; omega
theorem lost_sum : ∀ {C : List Sp} {a : Int}, (∀ t, t ∈ C → 0 ≤ t.1 ∧ t.1 < t.2 ∧ t.2 ≤ 1125899906842624) → 0 ≤ a → a + C.length * 1125899906842624 ≤ 9223372036854775807 → lostL (fun s => s.2 - s.1) a C = a + sumL C
  | [], a, _, _, _ => by simp [lostL, sumL]
  | s :: C, a, h, h0, h1 => by
    have hs := h s (by simp)
    simp only [List.length_cons] at h1
    unfold lostL sumL
    rw [w64 (by omega), lost_sum (fun t ht => h t (by simp [ht])) (by omega) (by omega)]
    omega
/-! ### in memory -/
/-- An almanac at p over the row L, that lies in block g. -/
def alm (p : Option Addr) (g : Option Nat) (L : List Sp) : Res :=
  ⟨fun b => p.map (·.block) = some b ∨ g = some b, fun w => (p = none ∧ g = none ∧ L = []) ∨ ∃ d A c, p = some ⟨d, 0, none⟩ ∧ w.heap[d]? = some (.cells [Value.slice A L.length c].toArray 58 (0, 0)) ∧ (rdr A 2 (L.map encSpan)).holds w ∧ A.map (·.block) = g ∧ g ≠ some d, by
    rintro w w' h (h0 | ⟨d, A, c, rfl, h2, h3, h4, h5⟩)
    · exact .inl h0
    · refine .inr ⟨d, A, c, rfl, (h d (.inl rfl)).trans h2, (rdr A 2 _).loc w w' (fun b hb => h b (.inr ?_)) h3, h4, h5⟩
      cases A with
      | none => exact hb.elim
      | some a => rw [← h4]; exact congrArg some hb, by
    rintro w b (⟨rfl, rfl, _⟩ | ⟨d, A, c, rfl, h2, h3, h4, h5⟩) hb
    · rcases hb with hb | hb <;> cases hb
    · rcases hb with hb | hb
      · injection hb with hb
        have hb : d = b := hb
        subst hb
        rcases Nat.lt_or_ge d w.heap.size with h' | h'
        · exact h'
        · rw [Array.getElem?_eq_none h'] at h2; cases h2
      · refine (rdr A 2 _).inside w b h3 ?_
        cases A with
        | none => rw [← h4] at hb; cases hb
        | some a => rw [← h4] at hb; injection hb⟩
/-- What one who only reads needs of it. -/
def Alm (w : World) (p : Option Addr) (L : List Sp) : Prop :=
  (p = none ∧ L = []) ∨ ∃ d A c, p = some ⟨d, 0, none⟩ ∧ (blk d 58 [.slice A L.length c]).holds w ∧ Rd w A 2 (L.map encSpan)
section
variable {w w0 : World} {F : Nat → Prop} {rs : List Res} {p : Option Addr} {g : Option Nat} {L : List Sp}
theorem alm_read (h : (alm p g L).holds w) : Alm w p L := by
  rcases h with ⟨h1, _, h2⟩ | ⟨d, A, c, h1, h2, h3, _⟩
  · exact .inl ⟨h1, h2⟩
  · exact .inr ⟨d, A, c, h1, h2, rdr_rd h3⟩
theorem Alm.later (H : SH w0 noBlocks rs w) (h : Alm w0 p L) : Alm w p L := by
  rcases h with h | ⟨d, A, c, h1, h2, h3⟩
  · exact .inl h
  · exact .inr ⟨d, A, c, h1, H.blk0 h2, H.rd0 h3⟩
theorem SH.addAlm (H : SH w0 F rs w) : SH w0 F (alm none none [] :: rs) w :=
  H.add (r := alm none none []) ⟨rfl, rfl, rfl, Nat.le_refl _, fun _ _ _ => rfl, .inl ⟨rfl, rfl, rfl⟩, fun b hb => by rcases hb with hb | hb <;> cases hb⟩
theorem alm_shut {d c : Nat} {A : Option Addr} (H : SH w0 F (blk d 58 [.slice A L.length c] :: rdr A 2 (L.map encSpan) :: rs) w) (hne : A.map (·.block) ≠ some d) : SH w0 F (alm (some ⟨d, 0, none⟩) (A.map (·.block)) L :: rs) w :=
  H.join (fun h1 h2 => .inr ⟨d, A, c, rfl, h1, h2, rfl, hne⟩) fun b hb => by
    rcases hb with hb | hb
    · injection hb with hb; exact .inl hb.symm
    · refine .inr ?_
      cases A with
      | none => cases hb
      | some a => injection hb
theorem SH.ownR (pre : List Res) (H : SH w0 F (pre ++ rs) w) : Own rs w := ⟨fun r hr => H.hold r (List.mem_append_right _ hr), (List.pairwise_append.mp H.disj).2.1⟩
theorem SH.callR {w' : World} {post : List Res} (pre : List Res) (H : SH w0 F (pre ++ rs) w) (C : SH w (footAll rs) post w') : SH w0 F (pre ++ post) w' :=
  ((H.perm List.perm_append_comm).callP C).perm List.perm_append_comm
end
end Go.Proofs.Ytnmglobfdlnenaa
