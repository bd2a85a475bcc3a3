/- From a contract to what a law's row asks. Conditions: none. -/
import Derived.Test.YtnmglobfdlnenaaVec
namespace Go.Proofs.Ytnmglobfdlnenaa
open Go Go.RowKit
set_option linter.unusedVariables false
set_option linter.unusedSimpArgs false
theorem rng_i64 {n : Int} (h : (Lit.int .i64 n).wf = true) : -9223372036854775808 ≤ n ∧ n ≤ 9223372036854775807 := by
  simp [Lit.wf, IntKind.min, IntKind.max, IntKind.signed, IntKind.bits] at h
  omega
theorem rng_u64 {n : Int} (h : (Lit.int .u64 n).wf = true) : 0 ≤ n ∧ n ≤ 18446744073709551615 := by
  simp [Lit.wf, IntKind.min, IntKind.max, IntKind.signed, IntKind.bits] at h
  omega
theorem rng_u8 {n : Int} (h : (Lit.int .u8 n).wf = true) : 0 ≤ n ∧ n ≤ 255 := by
  simp [Lit.wf, IntKind.min, IntKind.max, IntKind.signed, IntKind.bits] at h
  omega
/-- A row of numbers that came in, as a list that is read. -/
theorem row_ints {k : IntKind} {w : World} {a : Option Addr} {len cap : Nat} {zs : List Int} {enc : Int → List Value} (he : ∀ x, enc x = [.int k x])
    (h : (a = none ∧ len = 0 ∧ cap = 0 ∧ zs = []) ∨ ∃ x, a = some x ∧ len ≤ cap ∧ cap ≤ maxLen ∧ zs.length = cap ∧ (∀ i, i < zs.length → w.cell? (x.add i) = some (.int k (zs.getD i 0))) ∧ ∀ n ∈ zs, (Lit.int k n).wf = true) :
    ∃ L : List Int, L.length = len ∧ Rd w a 1 (L.map enc) ∧ L.length ≤ maxLen ∧ ∀ x, x ∈ L → (Lit.int k x).wf = true := by
  rcases h with ⟨rfl, rfl, rfl, rfl⟩ | ⟨x, rfl, h1, h2, h3, h4, h5⟩
  · exact ⟨[], rfl, Rd.nil, by decide, by intro x h; cases h⟩
  · refine ⟨zs.take len, by simp; omega, ⟨fun _ => rfl, ?_⟩, by simp; omega, fun y hy => h5 y (List.mem_of_mem_take hy)⟩
    intro i j c u hi hu
    simp only [List.getElem?_map, Option.map_eq_some_iff] at hi
    obtain ⟨y, hy, rfl⟩ := hi
    rw [he] at hu
    have hj : j = 0 := by
      rcases j with _ | j
      · rfl
      · simp at hu
    subst hj
    simp at hu; subst hu
    rw [List.getElem?_take] at hy
    split at hy
    · have hl : i < zs.length := by
        rcases Nat.lt_or_ge i zs.length with h' | h'
        · exact h'
        · rw [List.getElem?_eq_none h'] at hy; cases hy
      have e := h4 i hl
      rw [List.getD_eq_getElem?_getD, hy] at e
      simpa [adr] using e
    · cases hy
theorem answers {P : Program} {f : FuncId} {args : Array Value} {w : World} (h : Does P f args w (fun v w' => v = .bool true ∧ SH w noBlocks [] w')) : Calls P f args w fun e w' => e = .returned (.bool true) ∧ Below w.heap.size w w' :=
  h.out.mono fun e w' h => by
    cases e with
    | returned v => obtain ⟨rfl, H⟩ := h; exact ⟨rfl, H.below⟩
    | panicked c => exact h.elim
    | outgrown => exact h.elim
end Go.Proofs.Ytnmglobfdlnenaa
