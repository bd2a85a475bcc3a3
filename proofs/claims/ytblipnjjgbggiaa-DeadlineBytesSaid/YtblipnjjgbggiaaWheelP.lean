/- A wheel: where a thing waits, and what a turn does: the plain mathematics. Conditions: none. -/
import Derived.Test.YtblipnjjgbggiaaRefP
namespace Go.Proofs.Ytblipnjjgbggiaa
open Go Go.RowKit
set_option linter.unusedVariables false
set_option linter.unusedSectionVars false
set_option linter.unusedSimpArgs false
def shI (x i : Int) : Int := if i ≤ 0 then x else if i = 1 then x / 64 else if i = 2 then x / 4096 else if i = 3 then x / 262144 else x / 16777216
def plcFrom (now due i : Int) : Int × Int :=
  if i ≤ 0 ∧ now < due ∧ due / 64 = now / 64 then (0, due % 64) else if i ≤ 1 ∧ now < due ∧ due / 4096 = now / 4096 then (1, due / 64 % 64)
  else if i ≤ 2 ∧ now < due ∧ due / 262144 = now / 262144 then (2, due / 4096 % 64) else if i ≤ 3 ∧ now < due ∧ due / 16777216 = now / 16777216 then (3, due / 262144 % 64) else (4, 0)
def placeV (now due : Int) : Int × Int := plcFrom now due 0
section
variable {now due was to_ i j k : Int}
theorem four {i : Int} (h0 : 0 ≤ i) (h1 : i < 4) : i = 0 ∨ i = 1 ∨ i = 2 ∨ i = 3 := by omega
theorem plc_hit (h0 : 0 ≤ i) (h1 : i < 4) (h : now < due ∧ shI due (i + 1) = shI now (i + 1)) : plcFrom now due i = (i, shI due i % 64) := by
  rcases four h0 h1 with rfl | rfl | rfl | rfl <;> simp [shI] at h <;> simp [plcFrom, shI, h]
theorem plc_miss (h0 : 0 ≤ i) (h1 : i < 4) (h : ¬ (now < due ∧ shI due (i + 1) = shI now (i + 1))) : plcFrom now due i = plcFrom now due (i + 1) := by
  rcases four h0 h1 with rfl | rfl | rfl | rfl <;> simp [shI] at h <;> simp [plcFrom, shI, h]
  all_goals (try (intro h1 h2; exact absurd h2 (h h1)))
theorem plc_end : plcFrom now due 4 = (4, 0) := by simp [plcFrom]
/-- All that the numbers say. -/
theorem place_cases (now due : Int) : (now < due ∧ due / 64 = now / 64 ∧ placeV now due = (0, due % 64)) ∨ (now < due ∧ due / 64 ≠ now / 64 ∧ due / 4096 = now / 4096 ∧ placeV now due = (1, due / 64 % 64)) ∨
    (now < due ∧ due / 4096 ≠ now / 4096 ∧ due / 262144 = now / 262144 ∧ placeV now due = (2, due / 4096 % 64)) ∨ (now < due ∧ due / 262144 ≠ now / 262144 ∧ due / 16777216 = now / 16777216 ∧ placeV now due = (3, due / 262144 % 64)) ∨
    ((due ≤ now ∨ due / 16777216 ≠ now / 16777216) ∧ placeV now due = (4, 0)) := by
  by_cases h : now < due
  · by_cases h0 : due / 64 = now / 64
    · exact .inl ⟨h, h0, by simp [placeV, plcFrom, h, h0]⟩
    · by_cases h1 : due / 4096 = now / 4096
      · exact .inr (.inl ⟨h, h0, h1, by simp [placeV, plcFrom, h, h0, h1]⟩)
      · by_cases h2 : due / 262144 = now / 262144
        · exact .inr (.inr (.inl ⟨h, h1, h2, by simp [placeV, plcFrom, h, h0, h1, h2]⟩))
        · by_cases h3 : due / 16777216 = now / 16777216
          · exact .inr (.inr (.inr (.inl ⟨h, h2, h3, by simp [placeV, plcFrom, h, h0, h1, h2, h3]⟩)))
          · exact .inr (.inr (.inr (.inr ⟨.inr h3, by simp [placeV, plcFrom, h, h0, h1, h2, h3]⟩)))
  · exact .inr (.inr (.inr (.inr ⟨.inl (by omega), by simp [placeV, plcFrom, h]⟩)))
theorem place_rng (now due : Int) : 0 ≤ (placeV now due).1 ∧ (placeV now due).1 ≤ 4 ∧ 0 ≤ (placeV now due).2 ∧ (placeV now due).2 ≤ 63 := by
  rcases place_cases now due with ⟨_, _, h⟩ | ⟨_, _, _, h⟩ | ⟨_, _, _, h⟩ | ⟨_, _, _, h⟩ | ⟨_, h⟩ <;> rw [h] <;> simp <;> omega
theorem place_old (h : due ≤ now) : placeV now due = (4, 0) := by
  rcases place_cases now due with ⟨h1, _⟩ | ⟨h1, _⟩ | ⟨h1, _⟩ | ⟨h1, _⟩ | ⟨_, h⟩
  · omega
  · omega
  · omega
  · omega
  · exact h
def samI (was to_ i : Int) : Prop := shI was (i + 1) = shI to_ (i + 1)
/-- What a turn within a ring comes to. -/
theorem turn_late (hw : was ≤ to_) (h0 : 0 ≤ i) (h1 : i < 4) (hs : ¬ samI was to_ i) (hp : (placeV was due).1 = i) : due ≤ to_ := by
  rcases place_cases was due with ⟨a, b, h⟩ | ⟨a, b, c, h⟩ | ⟨a, b, c, h⟩ | ⟨a, b, c, h⟩ | ⟨a, h⟩ <;> rw [h] at hp <;> simp at hp <;> (try subst hp) <;> (try omega) <;> simp [samI, shI] at hs <;> omega
theorem turn_low (hw : was ≤ to_) (h0 : 0 ≤ i) (h1 : i < 4) (hs : samI was to_ i) (hp : (placeV was due).1 = i) (hk : (placeV was due).2 < shI to_ i % 64) : due ≤ to_ := by
  rcases place_cases was due with ⟨a, b, h⟩ | ⟨a, b, c, h⟩ | ⟨a, b, c, h⟩ | ⟨a, b, c, h⟩ | ⟨a, h⟩ <;> rw [h] at hp hk <;> simp at hp hk <;> (try subst hp) <;> (try omega) <;> simp [samI, shI] at hs hk <;> omega
theorem turn_at (hw : was ≤ to_) (h0 : 0 ≤ i) (h1 : i < 4) (hs : samI was to_ i) (hp : (placeV was due).1 = i) (hk : (placeV was due).2 = shI to_ i % 64) (hd : to_ < due) : (placeV to_ due).1 < i := by
  have hq := place_cases to_ due
  rcases place_cases was due with ⟨a, b, h⟩ | ⟨a, b, c, h⟩ | ⟨a, b, c, h⟩ | ⟨a, b, c, h⟩ | ⟨a, h⟩ <;> rw [h] at hp hk <;> simp at hp hk <;> (try subst hp) <;> (try omega) <;> simp [samI, shI] at hs hk <;>
    (rcases hq with ⟨a', b', h'⟩ | ⟨a', b', c', h'⟩ | ⟨a', b', c', h'⟩ | ⟨a', b', c', h'⟩ | ⟨a', h'⟩ <;> rw [h'] <;> simp <;> omega)
theorem turn_high (hw : was ≤ to_) (h0 : 0 ≤ i) (h1 : i < 4) (hs : samI was to_ i) (hp : (placeV was due).1 = i) (hk : shI to_ i % 64 < (placeV was due).2) : to_ < due ∧ placeV to_ due = placeV was due := by
  have hq := place_cases to_ due
  rcases place_cases was due with ⟨a, b, h⟩ | ⟨a, b, c, h⟩ | ⟨a, b, c, h⟩ | ⟨a, b, c, h⟩ | ⟨a, h⟩ <;> rw [h] at hp hk ⊢ <;> simp at hp hk <;> (try subst hp) <;> (try omega) <;> simp [samI, shI] at hs hk <;>
    (refine ⟨by omega, ?_⟩; rcases hq with ⟨a', b', h'⟩ | ⟨a', b', c', h'⟩ | ⟨a', b', c', h'⟩ | ⟨a', b', c', h'⟩ | ⟨a', h'⟩ <;> rw [h'] <;> simp <;> omega)
theorem turn_start (h0 : 0 ≤ i) (h1 : i < 4) (hn : 0 ≤ was) (hp : (placeV was due).1 = i) : shI was i % 64 < (placeV was due).2 := by
  rcases place_cases was due with ⟨a, b, h⟩ | ⟨a, b, c, h⟩ | ⟨a, b, c, h⟩ | ⟨a, b, c, h⟩ | ⟨a, h⟩ <;> rw [h] at hp ⊢ <;> simp at hp <;> (try subst hp) <;> (try omega) <;> simp [shI] <;> omega
theorem turn_up (hw : was ≤ to_) (h0 : 0 ≤ i) (h1 : i < 4) (hs : samI was to_ i) (hp : i < (placeV was due).1) (hd : was < due) : to_ < due ∧ placeV to_ due = placeV was due := by
  have hq := place_cases to_ due
  rcases four h0 h1 with rfl | rfl | rfl | rfl <;> simp [samI, shI] at hs <;>
    (rcases place_cases was due with ⟨a, b, h⟩ | ⟨a, b, c, h⟩ | ⟨a, b, c, h⟩ | ⟨a, b, c, h⟩ | ⟨a, h⟩ <;> rw [h] at hp ⊢ <;> simp at hp <;> (try omega) <;>
      (refine ⟨by omega, ?_⟩; rcases hq with ⟨a', b', h'⟩ | ⟨a', b', c', h'⟩ | ⟨a', b', c', h'⟩ | ⟨a', b', c', h'⟩ | ⟨a', h'⟩ <;> rw [h'] <;> simp <;> omega))
end
end Go.Proofs.Ytblipnjjgbggiaa
