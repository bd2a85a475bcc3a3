/- Numbers as bytes, written and read. Conditions: none. -/
import Derived.Test.YtblipnjjgbggiaaSnd
namespace Go.Proofs.Ytblipnjjgbggiaa
open Go Go.RowKit
set_option linter.unusedVariables false
set_option linter.unusedSimpArgs false
theorem SH.resF' {w0 w : World} {F : Nat → Prop} {rs : List Res} {r : Res} (H : SH w0 F rs w) (h : r.holds w0) (hF : ∀ b, r.foot b → ¬ F b) : r.holds w := r.loc w0 w (fun x hx => H.keep x (r.inside w0 x h hx) (hF x hx)) h
/-! ### written -/
def bytesN (n : Nat) : List Int := if h : n = 0 then [] else bytesN (n / 256) ++ [((n % 256 : Nat) : Int)]
termination_by n
decreasing_by omega
theorem bytesN_zero : bytesN 0 = [] := by rw [bytesN]; simp
theorem bytesN_pos {n : Nat} (h : n ≠ 0) : bytesN n = bytesN (n / 256) ++ [((n % 256 : Nat) : Int)] := by rw [bytesN]; simp [h]
theorem bytesN_le : ∀ (k n : Nat), n < 256 ^ k → (bytesN n).length ≤ k
  | 0, n, h => by
    have : n = 0 := by simpa using h
    subst this; rw [bytesN_zero]; simp
  | k + 1, n, h => by
    by_cases q : n = 0
    · subst q; rw [bytesN_zero]; simp
    · rw [bytesN_pos q, List.length_append, List.length_singleton]
      have := bytesN_le k (n / 256) (by rw [Nat.pow_succ] at h; omega)
      omega
theorem bytesN_byte : ∀ (n : Nat) (x : Int), x ∈ bytesN n → 0 ≤ x ∧ x ≤ 255 := by
  intro n
  induction n using Nat.strongRecOn with
  | ind n ih =>
    intro x hx
    by_cases q : n = 0
    · subst q; rw [bytesN_zero] at hx; cases hx
    · rw [bytesN_pos q] at hx
      rcases List.mem_append.mp hx with z | z
      · exact ih (n / 256) (by omega) x z
      · simp at z; omega
theorem bytesN_at : ∀ (n : Nat) (i : Nat), i < (bytesN n).length → (bytesN n)[i]? = some (((n / 256 ^ ((bytesN n).length - 1 - i) % 256 : Nat) : Int)) := by
  intro n
  induction n using Nat.strongRecOn with
  | ind n ih =>
    intro i hi
    by_cases q : n = 0
    · subst q; rw [bytesN_zero] at hi; simp at hi
    · have e := bytesN_pos q
      have hl : (bytesN n).length = (bytesN (n / 256)).length + 1 := by rw [e]; simp
      rw [hl] at hi ⊢
      by_cases z : i < (bytesN (n / 256)).length
      · rw [e, List.getElem?_append_left z, ih (n / 256) (by omega) i z]
        congr 3
        have : (bytesN (n / 256)).length + 1 - 1 - i = ((bytesN (n / 256)).length - 1 - i) + 1 := by omega
        rw [this, Nat.pow_succ, Nat.mul_comm, ← Nat.div_div_eq_div_mul]
      · have hi2 : i = (bytesN (n / 256)).length := by omega
        subst hi2
        rw [e, List.getElem?_append_right (Nat.le_refl _)]
        simp
def valB (M : List Int) : Int := M.foldl (fun a b => a * 256 + b) 0
theorem valB_snoc (M : List Int) (x : Int) : valB (M ++ [x]) = valB M * 256 + x := by unfold valB; rw [List.foldl_append]; rfl
theorem valB_bytesN : ∀ n : Nat, valB (bytesN n) = n := by
  intro n
  induction n using Nat.strongRecOn with
  | ind n ih =>
    by_cases q : n = 0
    · subst q; rw [bytesN_zero]; rfl
    · rw [bytesN_pos q, valB_snoc, ih (n / 256) (by omega)]; omega
theorem bytesN_head : ∀ n : Nat, n ≠ 0 → ∃ x M, bytesN n = x :: M ∧ x ≠ 0 := by
  intro n
  induction n using Nat.strongRecOn with
  | ind n ih =>
    intro q
    rw [bytesN_pos q]
    by_cases z : n / 256 = 0
    · rw [z, bytesN_zero]
      exact ⟨_, [], rfl, by omega⟩
    · obtain ⟨x, M, e, hx⟩ := ih (n / 256) (by omega) z
      rw [e]; exact ⟨x, M ++ _, rfl, hx⟩
theorem fold_rng : ∀ (M : List Int) (a : Int), 0 ≤ a → (∀ x, x ∈ M → 0 ≤ x ∧ x ≤ 255) → 0 ≤ M.foldl (fun a b => a * 256 + b) a ∧ M.foldl (fun a b => a * 256 + b) a < (a + 1) * 256 ^ M.length
  | [], a, h0, _ => by simp; omega
  | x :: M, a, h0, h => by
    have hx := h x (by simp)
    obtain ⟨h1, h2⟩ := fold_rng M (a * 256 + x) (by omega) (fun y hy => h y (List.mem_cons_of_mem _ hy))
    refine ⟨h1, Int.lt_of_lt_of_le h2 ?_⟩
    rw [List.length_cons, Int.pow_succ, Int.mul_comm (256 ^ M.length) 256, ← Int.mul_assoc]
    exact Int.mul_le_mul_of_nonneg_right (by omega) (Int.pow_nonneg (by decide))
theorem valB_rng (M : List Int) (h : ∀ x, x ∈ M → 0 ≤ x ∧ x ≤ 255) : 0 ≤ valB M ∧ valB M < 256 ^ M.length := by
  have := fold_rng M 0 (by decide) h
  simpa [valB] using this
def numM (mark : Int) (n : Nat) : List Int := (mark + (bytesN n).length) :: bytesN n
def intM (x : Int) : List Int := if x < 0 then numM 128 (-1 - x).toNat else numM 0 x.toNat
/-! ### read -/
def szV (marked : Bool) (c : Int) : Int := if marked then c % 128 else c
def pNum (marked : Bool) (most : Int) (L : List Int) : Option (Int × Bool × List Int) :=
  if L.length = 0 then none else if 8 < szV marked (gt L 0) ∨ L.length ≤ szV marked (gt L 0) ∨ (0 < szV marked (gt L 0) ∧ gt L 1 = 0) then none
  else if most < valB ((L.drop 1).take (szV marked (gt L 0)).toNat) then none
  else some (valB ((L.drop 1).take (szV marked (gt L 0)).toNat), marked && decide (128 ≤ gt L 0), L.drop (szV marked (gt L 0) + 1).toNat)
def nVal (o : Option (Int × Bool × List Int)) : Int := match o with | none => 0 | some x => x.1
def nMrk (o : Option (Int × Bool × List Int)) : Bool := match o with | none => false | some x => x.2.1
def nLst (o : Option (Int × Bool × List Int)) : List Int := match o with | none => [] | some x => x.2.2
def nBad (bad : Bool) (o : Option (Int × Bool × List Int)) : Bool := match o with | none => true | some _ => bad
/-- A part of a list of bytes, where it lies. -/
def SubR (A : Option Addr) (L : List Int) (A' : Option Addr) (L' : List Int) : Prop := ∀ w : World, Rd w A 1 (L.map encU8) → Rd w A' 1 (L'.map encU8)
theorem SubR.refl (A : Option Addr) (L : List Int) : SubR A L A L := fun w h => h
theorem SubR.trans {A A' A'' : Option Addr} {L L' L'' : List Int} (h : SubR A L A' L') (h' : SubR A' L' A'' L'') : SubR A L A'' L'' := fun w q => h' w (h w q)
theorem SubR.nil (A : Option Addr) (L : List Int) : SubR A L none [] := fun w h => Rd.nil
theorem SubR.drop {A : Option Addr} {L : List Int} {c : Nat} (hn : L.length ≤ c) (k : Nat) : SubR A L (if c = k then A else A.map (·.add (k * 1))) (L.drop k) := fun w h => rd_drop h hn k
end Go.Proofs.Ytblipnjjgbggiaa
