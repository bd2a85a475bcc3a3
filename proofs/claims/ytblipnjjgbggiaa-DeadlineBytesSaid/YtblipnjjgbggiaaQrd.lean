/- A state, read from bytes. Conditions: none. -/
import Derived.Test.YtblipnjjgbggiaaQlA
import Derived.Test.YtblipnjjgbggiaaDlS
namespace Go.Proofs.Ytblipnjjgbggiaa
open Go Go.RowKit
set_option linter.unusedVariables false
set_option linter.unusedSimpArgs false
abbrev RS := List Int × Bool
def sN (most : Int) (s : RS) : RS := (nLst (pNum false most s.1), nBad s.2 (pNum false most s.1))
def vN (most : Int) (s : RS) : Int := nVal (pNum false most s.1)
def sI (s : RS) : RS := (nLst (pNum true 9223372036854775807 s.1), nBad s.2 (pNum true 9223372036854775807 s.1))
def vI (s : RS) : Int := iVal (pNum true 9223372036854775807 s.1)
def U64 : Int := 18446744073709551615
def MXI : Int := 1152921504606846976
def HZI : Int := 1125899906842624
def rdT (s : RS) : Nat → List Thing × RS
  | 0 => ([], s)
  | n + 1 => ((rdT s n).1 ++ [⟨vN U64 (rdT s n).2, vN MXI (sN U64 (rdT s n).2), vN HZI (sN MXI (sN U64 (rdT s n).2))⟩], sN HZI (sN MXI (sN U64 (rdT s n).2)))
def s3 (s : RS) : RS := sN 256 (sN MXI (sI s))
def rdK (s : RS) : Int := vN 256 (sN MXI (sI s))
def rdX (s : RS) : List Thing := (rdT (s3 s) (rdK s).toNat).1
def rdZ (s : RS) : RS := (rdT (s3 s) (rdK s).toNat).2
noncomputable def rdOk (s : RS) : Bool := !(rdZ s).2 && sndB (vI s) (vN MXI (sI s)) (rdX s)
noncomputable def oNow (s : RS) : Int := if rdOk s then vI s else 0
noncomputable def oLast (s : RS) : Int := if rdOk s then vN MXI (sI s) else 0
noncomputable def oX (s : RS) : List Thing := if rdOk s then rdX s else []
noncomputable def oS (s : RS) : RS := if rdOk s then rdZ s else ([], true)
def GoodS (m : Nat) (s : RS) : Prop := Bytes s.1 ∧ s.1.length ≤ m
theorem GoodS.sN {m : Nat} {s : RS} {most : Int} (h : GoodS m s) : GoodS m (sN most s) := ⟨nLst_bytes h.1, Nat.le_trans nLst_le h.2⟩
theorem GoodS.sI {m : Nat} {s : RS} (h : GoodS m s) : GoodS m (sI s) := ⟨nLst_bytes h.1, Nat.le_trans nLst_le h.2⟩
theorem GoodS.rdT {m : Nat} {s : RS} (h : GoodS m s) : ∀ n, GoodS m (rdT s n).2
  | 0 => h
  | n + 1 => (((GoodS.rdT h n).sN).sN).sN
theorem rdT_len (s : RS) : ∀ n, (rdT s n).1.length = n
  | 0 => rfl
  | n + 1 => by show ((rdT s n).1 ++ [_]).length = _; rw [List.length_append, rdT_len s n]; rfl
theorem vN_rng {m : Nat} {s : RS} {most : Int} (h : GoodS m s) (hm : 0 ≤ most) : 0 ≤ vN most s ∧ vN most s ≤ most := pNum_rng h.1 hm
theorem rdT_succ {s : RS} {k : Int} (h : 0 ≤ k) : rdT s (k + 1).toNat = ((rdT s k.toNat).1 ++ [⟨vN U64 (rdT s k.toNat).2, vN MXI (sN U64 (rdT s k.toNat).2), vN HZI (sN MXI (sN U64 (rdT s k.toNat).2))⟩], sN HZI (sN MXI (sN U64 (rdT s k.toNat).2))) := by
  have e : (k + 1).toNat = k.toNat + 1 := by omega
  rw [e]; rfl
end Go.Proofs.Ytblipnjjgbggiaa
