/- Numbers as bytes: the steps of those who write them. Conditions: none. -/
import Derived.Test.YtblipnjjgbggiaaQil
namespace Go.Proofs.Ytblipnjjgbggiaa
open Go Go.RowKit
set_option linter.unusedVariables false
set_option linter.unusedSimpArgs false
theorem bytesN_len {x : Nat} (h : x ≠ 0) : (bytesN x).length = (bytesN (x / 256)).length + 1 := by rw [bytesN_pos h]; simp
theorem bytesN_8 {n : Nat} (h : n < 2 ^ 64) : (bytesN n).length ≤ 8 := bytesN_le 8 n (by simpa using h)
theorem shr8 (x : Nat) : ((x : Nat) : Int).fdiv (2 ^ min (8 : Int).toNat IntKind.u64.bits) = ((x / 256 : Nat) : Int) := by
  have e : (2 : Int) ^ min (8 : Int).toNat IntKind.u64.bits = ((256 : Nat) : Int) := by decide
  rw [e]
  exact Int.fdiv_eq_ediv_of_nonneg _ (by decide)
theorem shrK (n : Nat) (k : Int) (h0 : 0 ≤ k) (h1 : k ≤ 7) : ((n : Nat) : Int).fdiv (2 ^ min (8 * k).toNat IntKind.u64.bits) = ((n / 256 ^ k.toNat : Nat) : Int) := by
  have e : (2 : Int) ^ min (8 * k).toNat IntKind.u64.bits = ((256 ^ k.toNat : Nat) : Int) := by
    rcases (show k = 0 ∨ k = 1 ∨ k = 2 ∨ k = 3 ∨ k = 4 ∨ k = 5 ∨ k = 6 ∨ k = 7 by omega) with rfl | rfl | rfl | rfl | rfl | rfl | rfl | rfl <;> decide
  rw [e]
  exact Int.fdiv_eq_ediv_of_nonneg _ (Int.natCast_nonneg _)
theorem bytesN_gt {n : Nat} {i : Int} (h0 : 0 ≤ i) (h1 : i < (bytesN n).length) : gt (bytesN n) i = ((n / 256 ^ ((bytesN n).length - 1 - i : Int).toNat % 256 : Nat) : Int) := by
  have h := bytesN_at n i.toNat (by omega)
  have e : (bytesN n).length - 1 - i.toNat = ((bytesN n).length - 1 - i : Int).toNat := by omega
  rw [e] at h
  rw [gt_eq h0 h1]
  have h2 := List.getElem?_eq_getElem (l := bytesN n) (i := i.toNat) (by omega)
  rw [h2] at h
  exact Option.some.inj h
theorem u8_mod (m : Nat) : IntKind.u8.wrap ((m : Nat) : Int) = ((m % 256 : Nat) : Int) := by
  simp [IntKind.wrap, IntKind.signed, IntKind.bits]
theorem conv8_at {n : Nat} {i : Int} (h0 : 0 ≤ i) (h1 : i < (bytesN n).length) : IntKind.u8.wrap ((n / 256 ^ ((bytesN n).length - 1 - i : Int).toNat : Nat) : Int) = gt (bytesN n) i := by
  rw [u8_mod, bytesN_gt h0 h1]
def numI (x : Int) : List Int := numM 0 x.toNat
def thB (t : Thing) : List Int := numI t.id ++ numI t.gen ++ numI t.due
def putB (now last : Int) (X : List Thing) : List Int := intM now ++ numI last ++ numI X.length ++ X.flatMap thB
theorem numM_len (m : Int) (n : Nat) (h : n < 2 ^ 64) : (numM m n).length ≤ 9 := by
  have := bytesN_8 h
  unfold numM; rw [List.length_cons]; omega
end Go.Proofs.Ytblipnjjgbggiaa
