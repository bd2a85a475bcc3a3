/- Plain part of WheelFires and WheelSteps. Conditions: none. -/
import Derived.Test.YtblipnjjgbggiaaWhL
namespace Go.Proofs.Ytblipnjjgbggiaa
open Go Go.RowKit
set_option linter.unusedVariables false
set_option linter.unusedSimpArgs false
def okD (x : Int) : Prop := 0 ≤ x ∧ x ≤ 1125899906842624
instance (x : Int) : Decidable (okD x) := by unfold okD; infer_instance
/-- What waits once the first n are armed. -/
def arL (D : List Int) : Nat → List Thing
  | 0 => []
  | n + 1 => arL D n ++ (if okD (gt D n) then [⟨n, 7, gt D n⟩] else [])
theorem arL_mem {D : List Int} {t : Thing} : ∀ {n : Nat}, t ∈ arL D n ↔ ∃ k : Nat, k < n ∧ okD (gt D k) ∧ t = ⟨k, 7, gt D k⟩
  | 0 => by simp [arL]
  | n + 1 => by
    rw [arL, List.mem_append, arL_mem]
    constructor
    · rintro (⟨k, h1, h2⟩ | h)
      · exact ⟨k, by omega, h2⟩
      · split at h
        · rename_i q; exact ⟨n, by omega, q, List.mem_singleton.mp h⟩
        · cases h
    · rintro ⟨k, h1, h2, h3⟩
      by_cases e : k = n
      · subst e; right; rw [if_pos h2]; exact List.mem_singleton.mpr h3
      · exact .inl ⟨k, by omega, h2, h3⟩
theorem arL_le {D : List Int} : ∀ {n : Nat}, (arL D n).length ≤ n
  | 0 => by simp [arL]
  | n + 1 => by rw [arL, List.length_append]; have := arL_le (D := D) (n := n); split <;> simp <;> omega
theorem arL_none {D : List Int} {n : Nat} {i : Int} (h : (n : Int) ≤ i) : findT i (arL D n) = none := findT_none.mpr fun t ht e => by
  obtain ⟨k, hk, _, rfl⟩ := arL_mem.mp ht
  have e : i = (k : Int) := e
  omega
theorem arL_ids {D : List Int} : ∀ n : Nat, Ids (arL D n)
  | 0 => by simp [arL, Ids]
  | n + 1 => by
    rw [arL]
    split
    · exact (arL_ids n).snoc (arL_none (by dsimp only; omega))
    · rw [List.append_nil]; exact arL_ids n
theorem ar_step {D : List Int} {i : Int} (h0 : 0 ≤ i) (h1 : i < 100) : armV (arL D i.toNat) ⟨i, 7, gt D i⟩ = (arL D (i + 1).toNat, if okD (gt D i) then 0 else 2) := by
  have e : (i + 1).toNat = i.toNat + 1 := by omega
  have e2 : ((i.toNat : Nat) : Int) = i := by omega
  have hl := arL_le (D := D) (n := i.toNat)
  unfold armV
  rw [e, arL, e2]
  change (if ¬ okD (gt D i) then _ else _) = _
  by_cases q : okD (gt D i)
  · rw [if_neg (Classical.not_not.mpr q), arL_none (by dsimp only; omega), if_neg (by decide), if_neg (by omega), if_pos q, if_pos q]
  · rw [if_pos q, if_neg q, if_neg q, List.append_nil]
/-- Which are told by now: those with a due time not after b, and the first k of l. -/
def Met (D : List Int) (b : Int) (l : List Thing) (k : Int) (M : List Bool) : Prop :=
  M.length = D.length ∧ ∀ i : Int, 0 ≤ i → i < D.length → (gt M i = true ↔ (okD (gt D i) ∧ gt D i ≤ b) ∨ ∃ t, t ∈ l.take k.toNat ∧ t.id = i)
def fired (D : List Int) (b to_ : Int) : List Thing := sortT (((arL D D.length).filter fun t => decide (b < t.due)).filter fun t => decide (t.due ≤ to_))
theorem gt_repl {α : Type} [Inhabited α] {n : Nat} {x : α} {i : Int} (h0 : 0 ≤ i) (h1 : i < n) : gt (List.replicate n x) i = x := by
  rw [gt_eq h0 (by simpa using h1)]; simp
theorem Met.start (D : List Int) : Met D (-1) [] 0 (List.replicate D.length false) :=
  ⟨by simp, fun i h0 h1 => by rw [gt_repl h0 h1]; simp [okD]; omega⟩
theorem Met.any {D : List Int} {b : Int} {l : List Thing} {M : List Bool} (h : Met D b [] 0 M) : Met D b l 0 M :=
  ⟨h.1, fun i h0 h1 => by have := h.2 i h0 h1; simpa using this⟩
theorem fired_mem {D : List Int} {b to_ : Int} {t : Thing} : t ∈ fired D b to_ ↔ ∃ k : Nat, k < D.length ∧ okD (gt D k) ∧ b < gt D k ∧ gt D k ≤ to_ ∧ t = ⟨k, 7, gt D k⟩ := by
  rw [fired, (sortT_perm _).mem_iff, List.mem_filter, List.mem_filter, arL_mem]
  constructor
  · rintro ⟨⟨⟨k, h1, h2, rfl⟩, h3⟩, h4⟩
    exact ⟨k, h1, h2, of_decide_eq_true h3, of_decide_eq_true h4, rfl⟩
  · rintro ⟨k, h1, h2, h3, h4, rfl⟩
    exact ⟨⟨⟨k, h1, h2, rfl⟩, decide_eq_true h3⟩, decide_eq_true h4⟩
theorem fired_ids {D : List Int} {b to_ : Int} : Ids (fired D b to_) := ((arL_ids _).sub (List.filter_sublist.trans List.filter_sublist)).perm (sortT_perm _).symm
theorem fired_le {D : List Int} {b to_ : Int} : (fired D b to_).length ≤ D.length := by
  rw [fired, (sortT_perm _).length_eq]
  exact Nat.le_trans (List.length_filter_le _ _) (Nat.le_trans (List.length_filter_le _ _) arL_le)
theorem ids_ne_take {l : List Thing} (h : Ids l) {k : Int} (h0 : 0 ≤ k) (h1 : k < l.length) {t : Thing} (ht : t ∈ l.take k.toNat) : t.id ≠ (gt l k).id := by
  have e : l = l.take k.toNat ++ gt l k :: l.drop (k.toNat + 1) := by
    rw [gt_eq h0 h1, List.getElem_cons_drop, List.take_append_drop]
  intro q
  have hn : Ids (l.take k.toNat ++ gt l k :: l.drop (k.toNat + 1)) := e ▸ h
  unfold Ids at hn
  rw [List.map_append, List.nodup_append] at hn
  exact hn.2.2 _ (List.mem_map.mpr ⟨t, ht, rfl⟩) _ (List.mem_map.mpr ⟨_, List.mem_cons_self .., rfl⟩) q
theorem fired_at {D : List Int} {b to_ k : Int} {M : List Bool} (hm : Met D b (fired D b to_) k M) (h0 : 0 ≤ k) (h1 : k < (fired D b to_).length) :
    0 ≤ (gt (fired D b to_) k).id ∧ (gt (fired D b to_) k).id < D.length ∧ (gt (fired D b to_) k).due = gt D (gt (fired D b to_) k).id ∧ (gt (fired D b to_) k).due ≤ to_ ∧ gt M (gt (fired D b to_) k).id = false := by
  obtain ⟨j, hj, h2, h3, h4, e⟩ := fired_mem.mp (gt_mem h0 h1)
  have hd : ∀ t, t ∈ (fired D b to_).take k.toNat → t.id ≠ (gt (fired D b to_) k).id := fun t ht => ids_ne_take fired_ids h0 h1 ht
  rw [e] at hd ⊢
  refine ⟨by show (0 : Int) ≤ j; omega, by show (j : Int) < _; omega, rfl, h4, ?_⟩
  have hq := hm.2 j (by omega) (by omega)
  cases hv : gt M (j : Int) with
  | false => rfl
  | true =>
    rcases hq.mp hv with q | ⟨t, ht, q⟩
    · omega
    · exact absurd q (hd t ht)
theorem Met.step {D : List Int} {b to_ k : Int} {M : List Bool} (hm : Met D b (fired D b to_) k M) (h0 : 0 ≤ k) (h1 : k < (fired D b to_).length) : Met D b (fired D b to_) (k + 1) (M.set (gt (fired D b to_) k).id.toNat true) := by
  obtain ⟨q0, q1, _⟩ := fired_at hm h0 h1
  refine ⟨by simpa using hm.1, fun i i0 i1 => ?_⟩
  have hl := hm.1
  rw [gt_setI i0 (by omega) q0, take_gt h0 h1]
  by_cases e : i = (gt (fired D b to_) k).id
  · rw [if_pos e]
    refine ⟨fun _ => .inr ⟨gt (fired D b to_) k, by simp, e.symm⟩, fun _ => rfl⟩
  · rw [if_neg e, hm.2 i i0 i1]
    refine or_congr Iff.rfl ⟨fun ⟨t, ht, q⟩ => ⟨t, List.mem_append_left _ ht, q⟩, fun ⟨t, ht, q⟩ => ?_⟩
    rcases List.mem_append.mp ht with z | z
    · exact ⟨t, z, q⟩
    · rw [List.mem_singleton.mp z] at q; exact absurd q.symm e
theorem Met.stop {D : List Int} {b to_ k : Int} {M : List Bool} (hm : Met D b (fired D b to_) k M) (hb : b ≤ to_) (h : k = (fired D b to_).length) : Met D to_ [] 0 M := by
  subst h
  refine ⟨hm.1, fun i i0 i1 => ?_⟩
  rw [hm.2 i i0 i1, Int.toNat_natCast, List.take_length]
  simp only [Int.toNat_zero, List.take_nil]
  constructor
  · rintro (⟨h1, h2⟩ | ⟨t, ht, q⟩)
    · exact .inl ⟨h1, by omega⟩
    · obtain ⟨j, hj, h2, h3, h4, rfl⟩ := fired_mem.mp ht
      have q : (j : Int) = i := q
      subst q
      exact .inl ⟨h2, h4⟩
  · rintro (⟨h1, h2⟩ | ⟨t, ht, _⟩)
    · by_cases q : gt D i ≤ b
      · exact .inl ⟨h1, q⟩
      · refine .inr ⟨⟨i, 7, gt D i⟩, fired_mem.mpr ⟨i.toNat, by omega, ?_⟩, rfl⟩
        rw [Int.toNat_of_nonneg i0]
        exact ⟨h1, by omega, h2, rfl⟩
    · cases ht
theorem Met.tells {D : List Int} {b i : Int} {M : List Bool} (hm : Met D b [] 0 M) (h0 : 0 ≤ i) (h1 : i < D.length) (h2 : 0 ≤ gt D i) (h3 : gt D i ≤ 1125899906842624) : gt M i = decide (gt D i ≤ b) := by
  have h := hm.2 i h0 h1
  rw [Bool.eq_iff_iff, h]
  simp [okD, h2, h3]
theorem fired_rest {D : List Int} {b to_ : Int} (hb : b ≤ to_) : (((arL D D.length).filter fun t => decide (b < t.due)).filter fun t => decide (to_ < t.due)) = (arL D D.length).filter fun t => decide (to_ < t.due) := by
  rw [List.filter_filter]
  refine List.filter_congr fun t _ => ?_
  rw [Bool.eq_iff_iff]
  simp
  omega
theorem fired_all {D : List Int} : (arL D D.length).filter (fun t => decide ((-1 : Int) < t.due)) = arL D D.length := by
  refine List.filter_eq_self.mpr fun t ht => ?_
  obtain ⟨k, _, h, rfl⟩ := arL_mem.mp ht
  exact decide_eq_true (by have := h.1; show (-1 : Int) < gt D k; omega)
end Go.Proofs.Ytblipnjjgbggiaa
