/- Spans: the plain mathematics. Conditions: none. -/
import Derived.Test.YtblipnjjgbggiaaLst
namespace Go.Proofs.Ytblipnjjgbggiaa
open Go Go.RowKit
set_option linter.unusedVariables false
set_option linter.unusedSimpArgs false
abbrev Sp := Int × Int
def RightP (s : Sp) : Prop := 0 ≤ s.1 ∧ s.1 < s.2 ∧ s.2 ≤ 1125899906842624
instance (s : Sp) : Decidable (RightP s) := by unfold RightP; infer_instance
/-- In order, from e on, and none over another. -/
def good : Int → List Sp → Bool
  | _, [] => true
  | e, s :: L => decide (RightP s) && (decide (e ≤ s.1) && good s.2 L)
def rowV (L : List Sp) : Int := if 32 < L.length then 21 else if good 0 L then 0 else 2
theorem rowV_long {L : List Sp} (h : (32 : Int) < L.length) : rowV L = 21 := by unfold rowV; rw [if_pos (by omega)]
theorem rowV_good {L : List Sp} (h : ¬ (32 : Int) < L.length) (g : good 0 L = true) : rowV L = 0 := by unfold rowV; rw [if_neg (by omega), if_pos g]
theorem rowV_bad {L : List Sp} (h : ¬ (32 : Int) < L.length) (g : good 0 L = false) : rowV L = 2 := by unfold rowV; rw [if_neg (by omega), g]; rfl
theorem rowV_zero {L : List Sp} (h : rowV L = 0) : L.length ≤ 32 ∧ good 0 L = true := by
  unfold rowV at h
  split at h
  · omega
  · rename_i h'
    refine ⟨by omega, ?_⟩
    cases hg : good 0 L with
    | true => rfl
    | false => rw [hg] at h; exact absurd h (by decide)
theorem good_step {L : List Sp} {e i : Int} (h0 : 0 ≤ i) (h1 : i < L.length) : good e (L.drop i.toNat) = (decide (RightP (gt L i)) && (decide (e ≤ (gt L i).1) && good (gt L i).2 (L.drop (i + 1).toNat))) := by
  rw [drop_gt h0 h1]; rfl
theorem good_next {L : List Sp} {e i : Int} (h0 : 0 ≤ i) (h1 : i < L.length) (hr : RightP (gt L i)) (he : e ≤ (gt L i).1) : good (gt L i).2 (L.drop (i + 1).toNat) = good e (L.drop i.toNat) := by
  rw [good_step h0 h1, decide_eq_true hr, decide_eq_true he]; rfl
theorem good_not {L : List Sp} {e i : Int} (h0 : 0 ≤ i) (h1 : i < L.length) (h : ¬ RightP (gt L i) ∨ ¬ e ≤ (gt L i).1) : good e (L.drop i.toNat) = false := by
  rw [good_step h0 h1]
  rcases h with h | h <;> simp [h]
theorem good_end {L : List Sp} {e i : Int} (h : (L.length : Int) ≤ i) : good e (L.drop i.toNat) = true := by rw [drop_end h]; rfl
/-- The parts of spans that lie in a piece. -/
def common (s : Sp) (a b : Int) : Sp := (max s.1 a, min s.2 b)
def cutL : List Sp → Int → Int → List Sp
  | [], _, _ => []
  | s :: L, a, b => if max s.1 a < min s.2 b then common s a b :: cutL L a b else cutL L a b
def cutV (L : List Sp) (a b : Int) : List Sp := if rowV L = 0 then cutL L a b else []
theorem cutL_pos {L : List Sp} {a b i : Int} (h0 : 0 ≤ i) (h1 : i < L.length) (h : max (gt L i).1 a < min (gt L i).2 b) : cutL (L.drop i.toNat) a b = common (gt L i) a b :: cutL (L.drop (i + 1).toNat) a b := by
  rw [drop_gt h0 h1]; simp [cutL, h]
theorem cutL_neg {L : List Sp} {a b i : Int} (h0 : 0 ≤ i) (h1 : i < L.length) (h : ¬ max (gt L i).1 a < min (gt L i).2 b) : cutL (L.drop i.toNat) a b = cutL (L.drop (i + 1).toNat) a b := by
  rw [drop_gt h0 h1]; simp [cutL, h]
theorem cutL_end {L : List Sp} {a b i : Int} (h : (L.length : Int) ≤ i) : cutL (L.drop i.toNat) a b = [] := by rw [drop_end h]; rfl
theorem good_right : ∀ {e : Int} {L : List Sp}, good e L = true → ∀ s, s ∈ L → RightP s ∧ e ≤ s.1
  | e, [], _, s, hs => by cases hs
  | e, x :: L, h, s, hs => by
    simp only [good, Bool.and_eq_true, decide_eq_true_eq] at h
    rcases List.mem_cons.mp hs with hs | hs
    · subst hs; exact ⟨h.1, h.2.1⟩
    · have := good_right h.2.2 s hs
      exact ⟨this.1, by have := h.1; unfold RightP at this; omega⟩
theorem cutL_mem : ∀ {L : List Sp} {a b : Int} {t : Sp}, t ∈ cutL L a b → ∃ s, s ∈ L ∧ t = common s a b ∧ t.1 < t.2
  | [], a, b, t, h => by cases h
  | s :: L, a, b, t, h => by
    unfold cutL at h
    split at h
    · rename_i hc
      rcases List.mem_cons.mp h with h | h
      · exact ⟨s, by simp, h, by subst h; exact hc⟩
      · obtain ⟨x, hx, h2⟩ := cutL_mem h
        exact ⟨x, by simp [hx], h2⟩
    · obtain ⟨x, hx, h2⟩ := cutL_mem h
      exact ⟨x, by simp [hx], h2⟩
theorem cutL_len : ∀ (L : List Sp) (a b : Int), (cutL L a b).length ≤ L.length
  | [], _, _ => by simp [cutL]
  | s :: L, a, b => by
    have := cutL_len L a b
    unfold cutL
    split <;> simp <;> omega
/-- How long they are together. -/
def sumL : List Sp → Int
  | [] => 0
  | s :: L => (s.2 - s.1) + sumL L
theorem sumL_step {L : List Sp} {i : Int} (h0 : 0 ≤ i) (h1 : i < L.length) : sumL (L.drop i.toNat) = ((gt L i).2 - (gt L i).1) + sumL (L.drop (i + 1).toNat) := by rw [drop_gt h0 h1]; rfl
theorem sumL_end {L : List Sp} {i : Int} (h : (L.length : Int) ≤ i) : sumL (L.drop i.toNat) = 0 := by rw [drop_end h]; rfl
def withinV (L : List Sp) (a b : Int) : Int := sumL (cutV L a b)
/-- The pieces of a right row, cut: small, and few. -/
theorem cutV_small {L : List Sp} {a b : Int} : (cutV L a b).length ≤ 32 ∧ ∀ t, t ∈ cutV L a b → 0 ≤ t.1 ∧ t.1 < t.2 ∧ t.2 ≤ 1125899906842624 := by
  unfold cutV
  split
  · rename_i h
    have hz := rowV_zero h
    refine ⟨Nat.le_trans (cutL_len _ _ _) hz.1, fun t ht => ?_⟩
    obtain ⟨s, hs, rfl, hlt⟩ := cutL_mem ht
    have := (good_right hz.2 s hs).1
    unfold RightP at this
    simp only [common] at hlt ⊢
    omega
  · exact ⟨by simp, by simp⟩
def nthL : List Sp → Int → Option Int
  | [], _ => none
  | s :: L, n => if n < s.2 - s.1 then some (s.1 + n) else nthL L (n - (s.2 - s.1))
def nthV (L : List Sp) (n : Int) : Option Int := if rowV L = 0 ∧ 0 ≤ n then nthL L n else none
theorem nthL_pos {L : List Sp} {n i : Int} (h0 : 0 ≤ i) (h1 : i < L.length) (h : n < (gt L i).2 - (gt L i).1) : nthL (L.drop i.toNat) n = some ((gt L i).1 + n) := by
  rw [drop_gt h0 h1]; simp [nthL, h]
theorem nthL_neg {L : List Sp} {n i : Int} (h0 : 0 ≤ i) (h1 : i < L.length) (h : ¬ n < (gt L i).2 - (gt L i).1) : nthL (L.drop i.toNat) n = nthL (L.drop (i + 1).toNat) (n - ((gt L i).2 - (gt L i).1)) := by
  rw [drop_gt h0 h1]; simp only [nthL]; rw [if_neg h]
theorem nthL_end {L : List Sp} {n i : Int} (h : (L.length : Int) ≤ i) : nthL (L.drop i.toNat) n = none := by rw [drop_end h]; rfl
def hasIn (x : Int) (s : Sp) : Bool := decide (s.1 ≤ x ∧ x < s.2)
def hasV (L : List Sp) (x : Int) : Bool := decide (rowV L = 0) && L.any (hasIn x)
def idxFrom {α : Type} (p : α → Bool) : Int → List α → Int
  | _, [] => -1
  | i, s :: L => if p s then i else idxFrom p (i + 1) L
theorem idx_step {α : Type} [Inhabited α] {p : α → Bool} {L : List α} {i : Int} (h0 : 0 ≤ i) (h1 : i < L.length) (h : p (gt L i) = false) : idxFrom p i (L.drop i.toNat) = idxFrom p (i + 1) (L.drop (i + 1).toNat) := by
  rw [drop_gt h0 h1]; simp [idxFrom, h]
theorem idx_hit {α : Type} [Inhabited α] {p : α → Bool} {L : List α} {i : Int} (h0 : 0 ≤ i) (h1 : i < L.length) (h : p (gt L i) = true) : idxFrom p i (L.drop i.toNat) = i := by
  rw [drop_gt h0 h1]; simp [idxFrom, h]
theorem idx_end {α : Type} {p : α → Bool} {L : List α} {i j : Int} (h : (L.length : Int) ≤ i) : idxFrom p j (L.drop i.toNat) = -1 := by rw [drop_end h]; rfl
theorem idx_any {α : Type} {p : α → Bool} : ∀ (L : List α) (i : Int), 0 ≤ i → (decide (0 ≤ idxFrom p i L) = L.any p)
  | [], i, h => by simp [idxFrom]
  | s :: L, i, h => by
    unfold idxFrom
    split
    · rename_i h'; simp [h', h]
    · rename_i h'; rw [idx_any L (i + 1) (by omega)]; simp at h'; simp [h']
theorem any_step {α : Type} [Inhabited α] {p : α → Bool} {L : List α} {i : Int} (h0 : 0 ≤ i) (h1 : i < L.length) : (L.drop i.toNat).any p = (p (gt L i) || (L.drop (i + 1).toNat).any p) := by rw [drop_gt h0 h1]; rfl
theorem any_end {α : Type} {p : α → Bool} {L : List α} {i : Int} (h : (L.length : Int) ≤ i) : (L.drop i.toNat).any p = false := by rw [drop_end h]; rfl
theorem drops_step {α : Type} [Inhabited α] {L M : List α} {i : Int} (h0 : 0 ≤ i) (h1 : i < L.length) (h2 : i < M.length) : (L.drop i.toNat = M.drop i.toNat) ↔ (gt L i = gt M i ∧ L.drop (i + 1).toNat = M.drop (i + 1).toNat) := by
  rw [drop_gt h0 h1, drop_gt h0 h2, List.cons.injEq]
/-- Both, the pieces that two rows share: piece by piece. -/
def sideL (s : Sp) : List Sp → List Sp
  | [] => []
  | m :: M => if max s.1 m.1 < min s.2 m.2 then common s m.1 m.2 :: sideL s M else sideL s M
def pairsL : List Sp → List Sp → List Sp
  | [], _ => []
  | s :: L, M => sideL s M ++ pairsL L M
/-- The same by two hands that walk. -/
def zipL : List Sp → List Sp → List Sp
  | [], _ => []
  | _ :: _, [] => []
  | s :: L, m :: M =>
    (if max s.1 m.1 < min s.2 m.2 then [common s m.1 m.2] else []) ++ (if s.2 ≤ m.2 then zipL L (m :: M) else zipL (s :: L) M)
termination_by L M => L.length + M.length
theorem good_le : ∀ {e f : Int} {L : List Sp}, good e L = true → f ≤ e → good f L = true
  | e, f, [], _, _ => rfl
  | e, f, s :: L, h, hf => by
    simp only [good, Bool.and_eq_true, decide_eq_true_eq] at h ⊢
    exact ⟨h.1, by omega, h.2.2⟩
/-- No piece is shared with what begins behind. -/
theorem sideL_none {s : Sp} : ∀ {M : List Sp}, good s.2 M = true → sideL s M = []
  | [], _ => rfl
  | m :: M, h => by
    simp only [good, Bool.and_eq_true, decide_eq_true_eq] at h
    have h1 := h.1
    unfold RightP at h1
    unfold sideL
    rw [if_neg (by omega)]
    exact sideL_none (good_le h.2.2 (by omega))
theorem pairsL_nil : ∀ (L : List Sp), pairsL L [] = []
  | [] => rfl
  | s :: L => by simp [pairsL, sideL, pairsL_nil L]
theorem pairsL_skip {m : Sp} : ∀ {L M : List Sp} {e : Int}, good e L = true → m.2 ≤ e → pairsL L (m :: M) = pairsL L M
  | [], M, e, _, _ => rfl
  | s :: L, M, e, h, he => by
    simp only [good, Bool.and_eq_true, decide_eq_true_eq] at h
    have h1 := h.1
    unfold RightP at h1
    have h2 : sideL s (m :: M) = sideL s M := by rw [sideL, if_neg (by omega)]
    simp only [pairsL]
    rw [pairsL_skip h.2.2 (by omega), h2]
theorem zip_pairs : ∀ (L M : List Sp) (e f : Int), good e L = true → good f M = true → zipL L M = pairsL L M
  | [], M, _, _, _, _ => by simp [zipL, pairsL]
  | s :: L, [], _, _, _, _ => by rw [pairsL_nil]; simp [zipL]
  | s :: L, m :: M, e, f, h, h' => by
    have hL := h
    have hM := h'
    simp only [good, Bool.and_eq_true, decide_eq_true_eq] at h h'
    unfold zipL
    by_cases hc : s.2 ≤ m.2
    · rw [if_pos hc, zip_pairs L (m :: M) _ _ h.2.2 hM]
      simp only [pairsL]
      congr 1
      unfold sideL
      rw [sideL_none (good_le h'.2.2 hc)]
    · rw [if_neg hc, zip_pairs (s :: L) M _ _ hL h'.2.2]
      simp only [pairsL]
      rw [pairsL_skip h.2.2 (show m.2 ≤ s.2 by omega), ← List.append_assoc]
      congr 1
      show _ = sideL s (m :: M)
      conv => rhs; unfold sideL
      split <;> simp
termination_by L M => L.length + M.length
def bothV (L M : List Sp) : List Sp := if rowV L = 0 ∧ rowV M = 0 then (if 32 < (pairsL L M).length then [] else pairsL L M) else []
theorem pairs_len : ∀ (L M : List Sp), (pairsL L M).length ≤ L.length * M.length
  | [], M => by simp [pairsL]
  | s :: L, M => by
    have := pairs_len L M
    have h2 : ∀ M : List Sp, (sideL s M).length ≤ M.length := by
      intro M
      induction M with
      | nil => simp [sideL]
      | cons m M ih => unfold sideL; split <;> simp <;> omega
    have := h2 M
    simp only [pairsL, List.length_append, List.length_cons, Nat.add_mul]
    omega
def prevE (L : List Sp) (i : Int) : Int := if 0 < i then (gt L (i - 1)).2 else 0
theorem prevE_next {L : List Sp} {i : Int} (h : 0 ≤ i) : prevE L (i + 1) = (gt L i).2 := by unfold prevE; rw [if_pos (by omega), show i + 1 - 1 = i by omega]
def nthT : Option Int → Value
  | some x => .tuple #[.int .i64 x, .bool true]
  | none => .tuple #[.int .i64 0, .bool false]
theorem zip_le {L M : List Sp} {i j : Int} (h0 : 0 ≤ i) (h1 : i < L.length) (g0 : 0 ≤ j) (g1 : j < M.length) (h : (gt L i).2 ≤ (gt M j).2) :
    zipL (L.drop i.toNat) (M.drop j.toNat) = (if max (gt L i).1 (gt M j).1 < min (gt L i).2 (gt M j).2 then [common (gt L i) (gt M j).1 (gt M j).2] else []) ++ zipL (L.drop (i + 1).toNat) (M.drop j.toNat) := by
  rw [drop_gt h0 h1, drop_gt g0 g1]
  conv => lhs; unfold zipL
  rw [if_pos h]
theorem zip_gt {L M : List Sp} {i j : Int} (h0 : 0 ≤ i) (h1 : i < L.length) (g0 : 0 ≤ j) (g1 : j < M.length) (h : ¬ (gt L i).2 ≤ (gt M j).2) :
    zipL (L.drop i.toNat) (M.drop j.toNat) = (if max (gt L i).1 (gt M j).1 < min (gt L i).2 (gt M j).2 then [common (gt L i) (gt M j).1 (gt M j).2] else []) ++ zipL (L.drop i.toNat) (M.drop (j + 1).toNat) := by
  rw [drop_gt h0 h1, drop_gt g0 g1]
  conv => lhs; unfold zipL
  rw [if_neg h]
theorem zip_end {L M : List Sp} {i j : Int} (h : (L.length : Int) ≤ i ∨ (M.length : Int) ≤ j) : zipL (L.drop i.toNat) (M.drop j.toNat) = [] := by
  rcases h with h | h
  · rw [drop_end h]; unfold zipL; rfl
  · rw [drop_end h]; cases L.drop i.toNat <;> (unfold zipL; rfl)
theorem both_zip {L M R : List Sp} (h1 : rowV L = 0) (h2 : rowV M = 0) (h : R = zipL L M) : bothV L M = if 32 < R.length then [] else R := by
  rw [h, zip_pairs L M 0 0 (rowV_zero h1).2 (rowV_zero h2).2]; unfold bothV; rw [if_pos ⟨h1, h2⟩]
theorem side_pos {s : Sp} {M : List Sp} {j : Int} (g0 : 0 ≤ j) (g1 : j < M.length) (h : max s.1 (gt M j).1 < min s.2 (gt M j).2) : sideL s (M.drop j.toNat) = common s (gt M j).1 (gt M j).2 :: sideL s (M.drop (j + 1).toNat) := by
  rw [drop_gt g0 g1, sideL, if_pos h]
theorem side_neg {s : Sp} {M : List Sp} {j : Int} (g0 : 0 ≤ j) (g1 : j < M.length) (h : ¬ max s.1 (gt M j).1 < min s.2 (gt M j).2) : sideL s (M.drop j.toNat) = sideL s (M.drop (j + 1).toNat) := by
  rw [drop_gt g0 g1, sideL, if_neg h]
theorem side_end {s : Sp} {M : List Sp} {j : Int} (h : (M.length : Int) ≤ j) : sideL s (M.drop j.toNat) = [] := by rw [drop_end h]; rfl
theorem pairs_step {L M : List Sp} {i : Int} (h0 : 0 ≤ i) (h1 : i < L.length) : pairsL (L.drop i.toNat) M = sideL (gt L i) M ++ pairsL (L.drop (i + 1).toNat) M := by rw [drop_gt h0 h1]; rfl
theorem pairs_end {L M : List Sp} {i : Int} (h : (L.length : Int) ≤ i) : pairsL (L.drop i.toNat) M = [] := by rw [drop_end h]; rfl
end Go.Proofs.Ytblipnjjgbggiaa
