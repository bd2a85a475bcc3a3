/- From a contract to what a law's row asks. Conditions: none. -/
import Derived.Test.YtblipnjjgbggiaaVec
import Derived.Deep.Slices
import Derived.ChangeSame
import Derived.OpenShut
import Derived.ShutString
import Derived.ChangeOld
import Derived.Below
import Derived.ProofKit
namespace Go.Proofs.Ytblipnjjgbggiaa
open Go Go.RowKit
set_option linter.unusedVariables false
set_option linter.unusedSimpArgs false
theorem rng_i64 {n : Int} (h : (Lit.int .i64 n).wf = true) : -9223372036854775808 ≤ n ∧ n ≤ 9223372036854775807 := by
  simp [Lit.wf, IntKind.min, IntKind.max, IntKind.signed, IntKind.bits] at h
  omega
theorem rng_u64 {n : Int} (h : (Lit.int .u64 n).wf = true) : 0 ≤ n ∧ n ≤ 18446744073709551615 := by
  simp [Lit.wf, IntKind.min, IntKind.max, IntKind.signed, IntKind.bits] at h
  omega
theorem rng_u8 {n : Int} (h : (Lit.int .u8 n).wf = true) : 0 ≤ n ∧ n ≤ 255 := by
  simp [Lit.wf, IntKind.min, IntKind.max, IntKind.signed, IntKind.bits] at h
  omega
theorem rng_i8 {n : Int} (h : (Lit.int .i8 n).wf = true) : -128 ≤ n ∧ n ≤ 127 := by
  simp [Lit.wf, IntKind.min, IntKind.max, IntKind.signed, IntKind.bits] at h
  omega
/-- A row of numbers that came in, as a list that is read. -/
theorem row_ints {k : IntKind} {w : World} {a : Option Addr} {len cap : Nat} {zs : List Int} {enc : Int → List Value} (he : ∀ x, enc x = [.int k x])
    (h : (a = none ∧ len = 0 ∧ cap = 0 ∧ zs = []) ∨ ∃ x, a = some x ∧ len ≤ cap ∧ cap ≤ maxLen ∧ zs.length = cap ∧ (∀ i, i < zs.length → w.cell? (x.add i) = some (.int k (zs.getD i 0))) ∧ ∀ n ∈ zs, (Lit.int k n).wf = true) :
    ∃ L : List Int, L.length = len ∧ Rd w a 1 (L.map enc) ∧ L.length ≤ maxLen ∧ ∀ x, x ∈ L → (Lit.int k x).wf = true := by
  rcases h with ⟨rfl, rfl, rfl, rfl⟩ | ⟨x, rfl, h1, h2, h3, h4, h5⟩
  · exact ⟨[], rfl, Rd.nil, by decide, by intro x h; cases h⟩
  · refine ⟨zs.take len, by simp; omega, ⟨fun _ => rfl, ?_⟩, by simp; omega, fun y hy => h5 y (List.mem_of_mem_take hy)⟩
    intro i j c u hi hu
    simp only [List.getElem?_map, Option.map_eq_some_iff] at hi
    obtain ⟨y, hy, rfl⟩ := hi
    rw [he] at hu
    have hj : j = 0 := by
      rcases j with _ | j
      · rfl
      · simp at hu
    subst hj
    simp at hu; subst hu
    rw [List.getElem?_take] at hy
    split at hy
    · have hl : i < zs.length := by
        rcases Nat.lt_or_ge i zs.length with h' | h'
        · exact h'
        · rw [List.getElem?_eq_none h'] at hy; cases hy
      have e := h4 i hl
      rw [List.getD_eq_getElem?_getD, hy] at e
      simpa [adr] using e
    · cases hy
theorem answers {P : Program} {f : FuncId} {args : Array Value} {w : World} (h : Does P f args w (fun v w' => v = .bool true ∧ SH w noBlocks [] w')) : Calls P f args w fun e w' => e = .returned (.bool true) ∧ Below w.heap.size w w' :=
  h.out.mono fun e w' h => by
    cases e with
    | returned v => obtain ⟨rfl, H⟩ := h; exact ⟨rfl, H.below⟩
    | panicked c => exact h.elim
    | outgrown => exact h.elim
/-- A slice that came in, as a list that is read: of whatever elements. -/
theorem row_slice {H : Type} {enc : TypeId × Value → H} {P : Program} {w : World} {base : Nat} {spare : Nat → Bool} {held : Bool} {α : Type} [Inhabited α] {t e : TypeId} {fuel sz len cap : Nat} {a : Option Addr} {y : DataW H × List MemPlace} (encX : α → List Value) (wfx : α → Prop)
    (ht : P.underlying t = some (.slice e)) (ce : P.cellsOf e = sz) (hdec : ∀ {n : Nat} {cs : List Value} {z : DataW H × List MemPlace}, DataW.trod enc P w base spare held n e cs = some z → ∃ x : α, cs = encX x ∧ wfx x)
    (h : DataW.trod enc P w base spare held fuel t [.slice a len cap] = some y) : ∃ L : List α, L.length = len ∧ Rd w a sz (L.map encX) ∧ L.length ≤ maxLen ∧ ∀ x, x ∈ L → wfx x := by
  subst ce
  rcases Deep.open_slice ht h with ⟨hc, _⟩ | ⟨ad, ln, cp, m, n, D, Pl, hc, _, hl, hm, hmm, _, hx⟩
  · simp at hc
    obtain ⟨rfl, rfl, rfl⟩ := hc
    exact ⟨[], rfl, Rd.nil, by simp, by intro x h; cases h⟩
  · simp at hc
    obtain ⟨rfl, rfl, rfl⟩ := hc
    have hlm : len ≤ m := by rw [hmm]; split <;> omega
    have each : ∀ i, i < len → ∃ x : α, (∀ j, j < P.cellsOf e → w.cell? ((ad.add (i * P.cellsOf e)).add j) = (encX x)[j]?) ∧ (encX x).length = P.cellsOf e ∧ wfx x := by
      intro i hi
      obtain ⟨cs', h1, h2⟩ := hx i (by omega)
      obtain ⟨x, rfl, hw⟩ := hdec h2
      obtain ⟨_, hlen, hcell⟩ := World.cells?_some h1
      exact ⟨x, hcell, hlen, hw⟩
    obtain ⟨q, hq⟩ := Deep.choose_lt each
    refine ⟨(List.range len).map q, by simp, ⟨fun _ => rfl, ?_⟩, by simp; omega, ?_⟩
    · intro i j c u hi hu
      simp only [List.getElem?_map, Option.map_eq_some_iff] at hi
      obtain ⟨_, ⟨k, hk, rfl⟩, rfl⟩ := hi
      have hk' : i < len ∧ k = i := by
        rcases Nat.lt_or_ge i len with h' | h'
        · rw [List.getElem?_range h'] at hk; injection hk with hk; exact ⟨h', hk.symm⟩
        · rw [List.getElem?_eq_none (by simpa using h')] at hk; cases hk
      obtain ⟨hi', rfl⟩ := hk'
      obtain ⟨h1, h2, _⟩ := hq k hi'
      have hj : j < P.cellsOf e := by
        rcases Nat.lt_or_ge j (encX (q k)).length with h' | h'
        · omega
        · rw [List.getElem?_eq_none h'] at hu; cases hu
      have := h1 j hj
      rw [hu, add_add] at this
      exact this
    · intro x hx
      simp at hx
      obtain ⟨k, hk, rfl⟩ := hx
      exact (hq k hk).2.2
theorem dec_int {H : Type} {enc : TypeId × Value → H} {P : Program} {w : World} {base : Nat} {spare : Nat → Bool} {held : Bool} {k : IntKind} {e : TypeId} (encX : Int → List Value) (he : ∀ x, encX x = [.int k x]) (hu : P.underlying e = some (.int k)) {n : Nat} {cs : List Value} {z : DataW H × List MemPlace} (h : DataW.trod enc P w base spare held n e cs = some z) :
    ∃ x : Int, cs = encX x ∧ (Lit.int k x).wf = true := by
  obtain ⟨x, rfl, _, hw⟩ := Go.DataW.trod_int hu h
  exact ⟨x, (he x).symm, hw⟩
end Go.Proofs.Ytblipnjjgbggiaa
