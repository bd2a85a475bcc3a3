/- Spans: what the laws lean on. Conditions: none. -/
import Derived.Test.YtnmglobfdlnenaaSpJ
namespace Go.Proofs.Ytnmglobfdlnenaa
open Go Go.RowKit
set_option linter.unusedVariables false
set_option linter.unusedSimpArgs false
theorem nthT_eq (o : Option Int) : nthT o = .tuple #[.int .i64 (o.getD 0), .bool o.isSome] := by cases o <;> rfl
/-- How much of the spans lies in a piece. -/
def lies : List Sp → Int → Int → Int
  | [], _, _ => 0
  | s :: L, a, b => (if max s.1 a < min s.2 b then min s.2 b - max s.1 a else 0) + lies L a b
theorem sum_cut : ∀ (L : List Sp) (a b : Int), sumL (cutL L a b) = lies L a b
  | [], _, _ => rfl
  | s :: L, a, b => by
    unfold cutL lies
    split
    · simp [sumL, common, sum_cut L a b]
    · simp [sum_cut L a b]
theorem within_lies {L : List Sp} (h : rowV L = 0) (a b : Int) : withinV L a b = lies L a b := by
  unfold withinV cutV; rw [if_pos h, sum_cut]
theorem lies_sides : ∀ {L : List Sp} {e x : Int}, good e L = true → 0 ≤ x → x ≤ 1125899906842624 → lies L 0 x + lies L x 1125899906842624 = lies L 0 1125899906842624
  | [], _, _, _, _, _ => rfl
  | s :: L, e, x, h, h0, h1 => by
    simp only [good, Bool.and_eq_true, decide_eq_true_eq] at h
    have ih := lies_sides h.2.2 h0 h1
    have hr := h.1
    unfold RightP at hr
    simp only [lies]
    split <;> split <;> split <;> omega
theorem lies_bd : ∀ {L : List Sp} {e a b : Int}, good e L = true → 0 ≤ lies L a b ∧ lies L a b ≤ L.length * 1125899906842624
  | [], _, _, _, _ => by simp [lies]
  | s :: L, e, a, b, h => by
    simp only [good, Bool.and_eq_true, decide_eq_true_eq] at h
    have ih := lies_bd (a := a) (b := b) h.2.2
    have hr := h.1
    unfold RightP at hr
    simp only [lies, List.length_cons]
    split <;> omega
theorem within_bd {L : List Sp} (h : rowV L = 0) (a b : Int) : 0 ≤ withinV L a b ∧ withinV L a b ≤ 36028797018963968 := by
  rw [within_lies h]
  have hz := rowV_zero h
  have := lies_bd (a := a) (b := b) hz.2
  omega
theorem within_sides {L : List Sp} {x : Int} (h : rowV L = 0) (h0 : 0 ≤ x) (h1 : x ≤ 1125899906842624) : withinV L 0 x + withinV L x 1125899906842624 = withinV L 0 1125899906842624 := by
  rw [within_lies h, within_lies h, within_lies h]; exact lies_sides (rowV_zero h).2 h0 h1
theorem good_cov : ∀ {L : List Sp} {e x : Int}, good e L = true → cov L x → e ≤ x
  | L, e, x, h, ⟨s, hs, hx⟩ => by have := (good_right h s hs).2; omega
theorem lies_low : ∀ {L : List Sp} {e a y : Int}, good e L = true → y ≤ e → lies L a y = 0
  | [], _, _, _, _, _ => rfl
  | s :: L, e, a, y, h, hy => by
    simp only [good, Bool.and_eq_true, decide_eq_true_eq] at h
    have hr := h.1
    unfold RightP at hr
    unfold lies
    rw [lies_low h.2.2 (by omega), if_neg (by omega)]; rfl
theorem nth_lies : ∀ {L : List Sp} {e n y : Int}, good e L = true → 0 ≤ n → nthL L n = some y → cov L y ∧ lies L 0 y = n
  | [], _, _, _, _, _, h => by cases h
  | s :: L, e, n, y, h, hn, hy => by
    simp only [good, Bool.and_eq_true, decide_eq_true_eq] at h
    have hr := h.1
    unfold RightP at hr
    unfold nthL at hy
    split at hy
    · injection hy with hy
      subst hy
      refine ⟨cov_cons.mpr (.inl (by omega)), ?_⟩
      unfold lies
      rw [lies_low h.2.2 (by omega)]
      split <;> omega
    · have ih := nth_lies h.2.2 (by omega) hy
      have hge := good_cov h.2.2 ih.1
      refine ⟨cov_cons.mpr (.inr ih.1), ?_⟩
      unfold lies
      rw [ih.2, if_pos (by omega)]
      omega
theorem nth_isSome : ∀ {L : List Sp} {e n : Int}, good e L = true → 0 ≤ n → ((nthL L n).isSome = true ↔ n < lies L 0 1125899906842624)
  | [], _, n, _, hn => by simp [nthL, lies]; omega
  | s :: L, e, n, h, hn => by
    simp only [good, Bool.and_eq_true, decide_eq_true_eq] at h
    have hr := h.1
    unfold RightP at hr
    have hb := (lies_bd (a := 0) (b := 1125899906842624) h.2.2).1
    unfold nthL lies
    rw [if_pos (show max s.1 0 < min s.2 1125899906842624 by omega)]
    split
    · simp; omega
    · rw [nth_isSome h.2.2 (by omega)]; omega
theorem nth_some {L : List Sp} {n : Int} (h : rowV L = 0) : (nthV L n).isSome = decide (0 ≤ n ∧ n < withinV L 0 1125899906842624) := by
  rw [within_lies h]
  unfold nthV
  by_cases hn : 0 ≤ n
  · rw [if_pos ⟨h, hn⟩, Bool.eq_iff_iff, nth_isSome (rowV_zero h).2 hn]; simp [hn]
  · rw [if_neg (by omega)]; simp [hn]
theorem nth_has {L : List Sp} {n y : Int} (h : rowV L = 0) (hy : nthV L n = some y) : hasV L y = true ∧ withinV L 0 y = n := by
  unfold nthV at hy
  split at hy
  · rename_i hc
    have := nth_lies (rowV_zero h).2 hc.2 hy
    refine ⟨?_, by rw [within_lies h]; exact this.2⟩
    unfold hasV
    rw [decide_eq_true h, cov_any.mpr this.1]; rfl
  · cases hy
theorem lies_one : ∀ {L : List Sp} {e x : Int}, good e L = true → lies L x (x + 1) = if L.any (hasIn x) = true then 1 else 0
  | [], _, _, _ => rfl
  | s :: L, e, x, h => by
    simp only [good, Bool.and_eq_true, decide_eq_true_eq] at h
    have hr := h.1
    unfold RightP at hr
    unfold lies
    rw [List.any_cons]
    by_cases hx : s.1 ≤ x ∧ x < s.2
    · rw [show hasIn x s = true from decide_eq_true hx, lies_low h.2.2 (by omega), if_pos (by omega)]
      simp; omega
    · rw [show hasIn x s = false from decide_eq_false hx, lies_one h.2.2, if_neg (by omega), Bool.false_or, Int.zero_add]
theorem within_one {L : List Sp} {x : Int} (h : rowV L = 0) : withinV L x (x + 1) = if hasV L x = true then 1 else 0 := by
  rw [within_lies h, lies_one (rowV_zero h).2]
  unfold hasV
  rw [decide_eq_true h, Bool.true_and]
theorem both_len {L M : List Sp} : (bothV L M).length ≤ 32 := by
  unfold bothV
  split
  · split
    · simp
    · omega
  · simp
theorem JoinOf.len {L R : List Sp} (h : JoinOf L R) : R.length ≤ L.length := by
  rcases h with ⟨_, rfl⟩ | h
  · simp
  · exact h.2.2.2
theorem JoinOf.none_ {L R : List Sp} (h : JoinOf L R) {s : Sp} (hs : s ∈ L) (hn : ¬ RightP s) : R = [] := by
  rcases h with h | h
  · exact h.2
  · exact absurd (h.1 s hs) hn
theorem canon_good : ∀ {R : List Sp} {e : Int}, Canon R → (∀ s, s ∈ R → e ≤ s.1) → good e R = true
  | [], _, _, _ => rfl
  | s :: R, e, h, he => by
    have hr := h.right s (by simp)
    have hg := (List.pairwise_cons.mp h.gap).1
    have ih := canon_good (e := s.2) h.tail fun t ht => by have := hg t ht; omega
    simp only [good, Bool.and_eq_true, decide_eq_true_eq]
    exact ⟨hr, he s (by simp), ih⟩
theorem JoinOf.has {L R : List Sp} {x : Int} (h : JoinOf L R) (hr : ∀ s, s ∈ L → RightP s) (hl : L.length ≤ 32) : hasV R x = L.any (hasIn x) := by
  rcases h with ⟨⟨s, hs, hn⟩, _⟩ | ⟨_, hc, hv, hlen⟩
  · exact absurd (hr s hs) hn
  · have hrow : rowV R = 0 := rowV_good (by omega) (canon_good hc fun s hs => (hc.right s hs).1)
    unfold hasV
    rw [decide_eq_true hrow, Bool.true_and, Bool.eq_iff_iff, cov_any, cov_any]
    exact hv x
theorem JoinOf.gap {L R : List Sp} (h : JoinOf L R) {i : Int} (h0 : 0 < i) (h1 : i < R.length) : (gt R (i - 1)).2 < (gt R i).1 := by
  have hc : Canon R := by
    rcases h with ⟨_, rfl⟩ | h
    · exact .nil
    · exact h.2.1
  rw [gt_eq (by omega) (by omega), gt_eq (by omega) (by omega)]
  exact (List.pairwise_iff_getElem.mp hc.gap) _ _ _ _ (by omega)
theorem any_take {α : Type} [Inhabited α] {p : α → Bool} {L : List α} {i : Int} (h0 : 0 ≤ i) (h1 : i < L.length) : (L.take (i + 1).toNat).any p = ((L.take i.toNat).any p || p (gt L i)) := by
  rw [take_gt h0 h1, List.any_append]; simp
theorem join_live {R : List Sp} (h : JoinOf [(5, 8), (0, 5)] R) : R = [(0, 8)] := by
  refine h.same (.inr ⟨by decide, ⟨by decide, by simp⟩, fun x => ?_, by decide⟩)
  rw [cov_cons, cov_cons, cov_cons]
  have := @cov_nil x
  simp only
  constructor
  · rintro (h | h)
    · by_cases hx : x < 5
      · exact .inr (.inl (by omega))
      · exact .inl (by omega)
    · exact absurd h this
  · rintro (h | h | h)
    · exact .inl (by omega)
    · exact .inl (by omega)
    · exact absurd h this
end Go.Proofs.Ytnmglobfdlnenaa
