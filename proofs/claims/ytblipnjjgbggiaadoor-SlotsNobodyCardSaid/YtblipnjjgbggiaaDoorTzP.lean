/- Trailing zeros and turned words: what the machine's operations come to; the library's table. Conditions: none. -/
import Derived.Test.YtblipnjjgbggiaaDoorRefP
namespace Go.Proofs.YtblipnjjgbggiaaDoor
open Go Go.RowKit
set_option linter.unusedVariables false
set_option linter.unusedSectionVars false
set_option linter.unusedSimpArgs false
def tabR : Res :=
  ⟨fun x => x = 0, fun w => ∀ j, j < 64 → w.cell? ⟨0, j, none⟩ = some (.int .u8 ((Go.Lib.deBruijn64tab.getD j 0 : Nat) : Int)), fun w w' h hw j hj => (World.cell?_of_block (w := w) (a := ⟨0, j, none⟩) (h 0 rfl)).trans (hw j hj), fun w b hw hb => by
    have hb : b = 0 := hb
    subst hb
    exact World.block_lt_of_cell? w ⟨0, 0, none⟩ (hw 0 (by decide))⟩
theorem SH.resF {w0 w : World} {F : Nat → Prop} {rs : List Res} {r : Res} (H : SH w0 F rs w) (h : r.holds w0) (hF : ∀ b, r.foot b → ¬ F b) : r.holds w := r.loc w0 w (fun x hx => H.keep x (r.inside w0 x h hx) (hF x hx)) h
theorem wrap_u64 (n : Int) : IntKind.u64.wrap n = n % 18446744073709551616 := by simp [IntKind.wrap, IntKind.signed, IntKind.bits]
theorem and_u64 (n m : Nat) (hn : n < 2 ^ 64) (hm : m < 2 ^ 64) : IntKind.u64.wrap (BitVec.ofInt 64 (n : Int) &&& BitVec.ofInt 64 (m : Int)).toNat = ((n &&& m : Nat) : Int) := by
  have : (BitVec.ofInt 64 (n : Int) &&& BitVec.ofInt 64 (m : Int)).toNat = n &&& m := by
    rw [BitVec.toNat_and, BitVec.ofInt_natCast, BitVec.ofInt_natCast, BitVec.toNat_ofNat, BitVec.toNat_ofNat, Nat.mod_eq_of_lt hn, Nat.mod_eq_of_lt hm]
  rw [this]
  have : n &&& m ≤ n := Nat.and_le_left
  exact wu64 (by omega)
theorem neg_u64 (x : Nat) (h0 : x ≠ 0) (hx : x < 2 ^ 64) : IntKind.u64.wrap (0 - (x : Int)) = ((2 ^ 64 - x : Nat) : Int) := by rw [wrap_u64]; omega
theorem low_u64 (x : Nat) (h0 : x ≠ 0) (hx : x < 2 ^ 64) : IntKind.u64.wrap (BitVec.ofInt 64 (x : Int) &&& BitVec.ofInt 64 ((2 ^ 64 - x : Nat) : Int)).toNat = ((2 ^ Go.Lib.ctz 64 x : Nat) : Int) := by
  rw [and_u64 x (2 ^ 64 - x) hx (by omega), (Go.Lib.lowest_bit 64 x h0 hx).1]
theorem mul_u64 (n m : Nat) : IntKind.u64.wrap ((n : Int) * (m : Int)) = ((n * m % 18446744073709551616 : Nat) : Int) := by rw [wrap_u64, Int.natCast_emod, Int.natCast_mul]; rfl
theorem shr_u64 (n s : Nat) (hs : s ≤ 64) : Int.fdiv (n : Int) (2 ^ min (s : Int).toNat IntKind.u64.bits) = ((n >>> s : Nat) : Int) := by
  have e : min (s : Int).toNat IntKind.u64.bits = s := by rw [Int.toNat_natCast]; exact Nat.min_eq_left hs
  rw [e, show ((2 : Int) ^ s) = ((2 ^ s : Nat) : Int) by norm_cast, Nat.shiftRight_eq_div_pow]
  exact (Int.fdiv_eq_ediv_of_nonneg _ (Int.natCast_nonneg _)).trans (by norm_cast)
theorem shl_u64 (n s : Nat) (hs : s ≤ 64) : IntKind.u64.wrap ((n : Int) * 2 ^ min (s : Int).toNat IntKind.u64.bits) = (((n <<< s) % 2 ^ 64 : Nat) : Int) := by
  have e : min (s : Int).toNat IntKind.u64.bits = s := by rw [Int.toNat_natCast]; exact Nat.min_eq_left hs
  rw [e, show ((2 : Int) ^ s) = ((2 ^ s : Nat) : Int) by norm_cast, Nat.shiftLeft_eq, wrap_u64, Int.natCast_emod, Int.natCast_mul]; rfl
theorem and63 (f : Int) : IntKind.i64.wrap (BitVec.ofInt 64 f &&& BitVec.ofInt 64 63).toNat = f % 64 := by
  have h : (BitVec.ofInt 64 f &&& BitVec.ofInt 64 63).toNat = (f % 64).toNat := by
    rw [BitVec.toNat_and, BitVec.toNat_ofInt, BitVec.toNat_ofInt, show ((63 : Int) % ((2 ^ 64 : Nat) : Int)).toNat = 2 ^ 6 - 1 from rfl, Nat.and_two_pow_sub_one_eq_mod]
    omega
  rw [h]
  exact (w64 (by omega)).trans (by omega)
theorem rot_s (a : Int) (h0 : 0 ≤ a) (h1 : a < 64) : IntKind.u64.wrap (BitVec.ofInt 64 (IntKind.u64.wrap (-a)) &&& BitVec.ofInt 64 63).toNat = (((64 - a.toNat) % 64 : Nat) : Int) := by
  have h : (BitVec.ofInt 64 (IntKind.u64.wrap (-a)) &&& BitVec.ofInt 64 63).toNat = (64 - a.toNat) % 64 := by
    rw [BitVec.toNat_and, BitVec.toNat_ofInt, BitVec.toNat_ofInt, show ((63 : Int) % ((2 ^ 64 : Nat) : Int)).toNat = 2 ^ 6 - 1 from rfl, Nat.and_two_pow_sub_one_eq_mod, wrap_u64]
    omega
  rw [h]
  exact wu64 (by omega)
theorem rot_or (u a : Nat) (hu : u < 2 ^ 64) : IntKind.u64.wrap (BitVec.ofInt 64 (((u <<< ((64 - a) % 64)) % 2 ^ 64 : Nat) : Int) ||| BitVec.ofInt 64 ((u >>> (64 - (64 - a) % 64) : Nat) : Int)).toNat = ((rotN u a : Nat) : Int) :=
  or_u64 _ _ (Nat.mod_lt _ (by decide)) (Nat.lt_of_le_of_lt (Nat.shiftRight_le _ _) hu)
end Go.Proofs.YtblipnjjgbggiaaDoor
