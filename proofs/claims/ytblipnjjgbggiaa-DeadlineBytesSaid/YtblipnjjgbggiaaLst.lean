/- Lists, told by whole numbers as places. Conditions: none. -/
import Derived.Test.YtblipnjjgbggiaaVec
namespace Go.Proofs.Ytblipnjjgbggiaa
open Go Go.RowKit
set_option linter.unusedVariables false
theorem gt_eq {α : Type} [Inhabited α] {L : List α} {i : Int} (h0 : 0 ≤ i) (h1 : i < L.length) : gt L i = L[i.toNat]'(by omega) := by
  have := gt_get h0 h1
  rw [List.getElem?_eq_getElem (by omega)] at this
  injection this with this; exact this.symm
theorem take_gt {α : Type} [Inhabited α] {L : List α} {i : Int} (h0 : 0 ≤ i) (h1 : i < L.length) : L.take (i + 1).toNat = L.take i.toNat ++ [gt L i] := by
  have e : (i + 1).toNat = i.toNat + 1 := by omega
  have hl : i.toNat < L.length := by omega
  rw [e, List.take_succ_eq_append_getElem hl]
  congr 2
  have := gt_get h0 h1
  rw [List.getElem?_eq_getElem hl] at this
  injection this
theorem gt_mem {α : Type} [Inhabited α] {L : List α} {i : Int} (h0 : 0 ≤ i) (h1 : i < L.length) : gt L i ∈ L := List.mem_of_getElem? (gt_get h0 h1)
theorem drop_gt {α : Type} [Inhabited α] {L : List α} {i : Int} (h0 : 0 ≤ i) (h1 : i < L.length) : L.drop i.toNat = gt L i :: L.drop (i + 1).toNat := by
  have e : (i + 1).toNat = i.toNat + 1 := by omega
  rw [e, gt_eq h0 h1, List.drop_eq_getElem_cons (by omega)]
theorem gt_set_ne {α : Type} [Inhabited α] {L : List α} {i j : Int} {x : α} (h0 : 0 ≤ i) (h1 : i < L.length) (j0 : 0 ≤ j) (h : i ≠ j) : gt (L.set j.toNat x) i = gt L i := by
  rw [gt_eq h0 (by simpa using h1), gt_eq h0 h1, List.getElem_set_ne (by omega)]
theorem gt_replicate {α : Type} [Inhabited α] {n i : Int} {x : α} (h0 : 0 ≤ i) (h1 : i < n) : gt (List.replicate n.toNat x) i = x := by
  rw [gt_eq h0 (by simp; omega)]; simp
theorem drop_end {α : Type} {L : List α} {i : Int} (h : (L.length : Int) ≤ i) : L.drop i.toNat = [] := List.drop_eq_nil_of_le (by omega)
theorem SH.as_ {w0 w : World} {F : Nat → Prop} {rs rs' : List Res} (H : SH w0 F rs w) (e : rs = rs') : SH w0 F rs' w := e ▸ H
theorem rdS {w0 w : World} {A : Option Addr} {sz : Nat} {xs : List (List Value)} (h : ∃ rs, SH w0 noBlocks rs w) (hR : Rd w0 A sz xs) : Rd w A sz xs := by obtain ⟨rs, H⟩ := h; exact H.rd0 hR
theorem SH.blk0 {w0 w : World} {rs : List Res} {b : Nat} {t : TypeId} {cs : List Value} (H : SH w0 noBlocks rs w) (h : (blk b t cs).holds w0) : (blk b t cs).holds w :=
  (blk b t cs).loc w0 w (fun x hx => H.keep x ((blk b t cs).inside w0 x h hx) id) h
end Go.Proofs.Ytblipnjjgbggiaa
