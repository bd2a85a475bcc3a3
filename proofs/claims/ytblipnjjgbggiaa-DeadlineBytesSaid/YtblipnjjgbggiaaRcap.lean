/- A slice that came in: its length is at most its cap. Conditions: none. -/
import Derived.Test.YtblipnjjgbggiaaRow
namespace Go.Proofs.Ytblipnjjgbggiaa
open Go Go.RowKit
theorem row_cap {H : Type} {enc : TypeId × Value → H} {P : Program} {w : World} {base : Nat} {spare : Nat → Bool} {held : Bool} {t e : TypeId} {fuel len cap : Nat} {a : Option Addr} {y : DataW H × List MemPlace}
    (ht : P.underlying t = some (.slice e)) (h : DataW.trod enc P w base spare held fuel t [.slice a len cap] = some y) : len ≤ cap := by
  rcases Deep.open_slice ht h with ⟨hc, _⟩ | ⟨ad, ln, cp, m, n, D, Pl, hc, _, hl, _⟩
  · simp at hc; omega
  · simp at hc; omega
end Go.Proofs.Ytblipnjjgbggiaa
