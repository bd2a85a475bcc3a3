/- Blocks that are no cells. Conditions: none. -/
import Derived.RangeFuncRecord
import Derived.Test.YtblipnjjgbggiaaLst
namespace Go.Proofs.Ytblipnjjgbggiaa
open Go Go.RowKit
set_option linter.unusedVariables false
set_option linter.unusedSimpArgs false
section
variable {w w' w0 : World} {F : Nat → Prop} {rs rs' : List Res} {b : Nat} {o o' : Obj}
/-- A block that is no cells. -/
def objR (b : Nat) (o : Obj) : Res :=
  ⟨fun x => x = b, fun w => w.heap[b]? = some o, fun w w' h hw => (h b rfl).trans hw, fun w x h hx => by
    have hx : x = b := hx
    subst hx
    rcases Nat.lt_or_ge x w.heap.size with hlt | hge
    · exact hlt
    · rw [Array.getElem?_eq_none hge] at h; cases h⟩
theorem upd_putObj (o' : Obj) (h : (objR b o).holds w) : Upd w (objR b o) (objR b o') (w.putObj b o') := by
  have hb := (objR b o).inside w b h rfl
  exact ⟨rfl, rfl, rfl, by simp, fun x hx hne => World.putObj_heap_other hne, World.putObj_heap_same hb, fun x hx => .inl hx⟩
theorem upd_allocObj (w : World) (o : Obj) : Upd w emp (objR w.heap.size o) (w.alloc o) :=
  ⟨rfl, rfl, rfl, by simp, fun b hb _ => Below.heap_alloc w _ b hb, heap_alloc_new w _, fun b hb => .inr (by have hb : b = w.heap.size := hb; omega)⟩
end
end Go.Proofs.Ytblipnjjgbggiaa
