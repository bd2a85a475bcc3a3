/- Growing slices: stores into them, slices made with a length. Conditions: none. -/
import Derived.Test.YtblipnjjgbggiaaHeld
import Derived.Laws.MakeOwn
namespace Go.Proofs.Ytblipnjjgbggiaa
open Go Go.RowKit
set_option linter.unusedVariables false
set_option linter.unusedSectionVars false
set_option linter.unusedSimpArgs false
section
variable {P : Program} {n : Nat} {D : List Deferred} {Q : Exit → Act → World → Prop} {w w0 : World} {F : Nat → Prop} {rs : List Res} {l : List (Nat × Value)} {all : Array Oper} {o : Oper} {rest : List Oper} {d : Nat}
  {t e : TypeId} {x y : Operand} {a : Addr} {v z : Value} {A : Option Addr} {c sz m : Nat} {xs : List Value}

theorem row_some (h : (row A m c e sz xs).holds w) (hx : xs ≠ []) : ∃ g, A = some ⟨g, 0, none⟩ := by
  have h' : w.ownsRow 0 e sz (.slice A m c) m xs := h
  rcases h'.2 with ⟨e1, e2⟩ | ⟨g, cap, cur, hv, _⟩
  · subst e2
    have := h'.1
    simp at this
    exact absurd this hx
  · injection hv with hA; exact ⟨g, hA⟩
/-- Cells of a row are laid over. -/
theorem row_over : ∀ (vs xs : List Value) (j : Nat) (w : World) (g : Nat), (row (some ⟨g, 0, none⟩) m c e sz xs).holds w → j + vs.length ≤ xs.length → (∀ v, v ∈ vs → v.oneCell' = true) →
    ∃ w1, (∀ i : Nat, (storeCells ⟨g, j - i, none⟩ vs i).run P w = .ok () w1 ∨ j < i) ∧ Upd w (row (some ⟨g, 0, none⟩) m c e sz xs) (row (some ⟨g, 0, none⟩) m c e sz (over xs j vs)) w1
  | [], xs, j, w, g, h, _, _ => ⟨w, fun i => .inl (by simp [storeCells]), ⟨rfl, rfl, rfl, Nat.le_refl _, fun _ _ _ => rfl, h, fun _ hb => .inl hb⟩⟩
  | v :: vs, xs, j, w, g, h, hl, h1 => by
    have h' : w.ownsRow 0 e sz (.slice (some ⟨g, 0, none⟩) m c) m xs := h
    have hlt : j < xs.length := by simp at hl; omega
    have hv := h1 v (by simp)
    have hcell : w.cell? ⟨g, j, none⟩ = some xs[j] := by
      rw [h'.cellAt j (by rw [← h'.1]; exact hlt), List.getElem?_eq_getElem hlt]
    have hfr := h'.frozenAt j
    have hst := h'.stored j v
    have U : Upd w (row (some ⟨g, 0, none⟩) m c e sz xs) (row (some ⟨g, 0, none⟩) m c e sz (xs.set j v)) (w.setCell ⟨g, j, none⟩ v) := upd_row hst.1 hst.2 (fun b hb => .inl hb)
    obtain ⟨w1, hr, U1⟩ := row_over vs (xs.set j v) (j + 1) _ g U.hold (by simp at hl ⊢; omega) (fun u hu => h1 u (by simp [hu]))
    refine ⟨w1, fun i => ?_, ⟨U1.os.trans U.os, U1.tape.trans U.tape, U1.output.trans U.output, Nat.le_trans U.size U1.size, fun x hx hne => (U1.keep x (Nat.lt_of_lt_of_le hx U.size) hne).trans (U.keep x hx hne), U1.hold, fun x hx => .inl (by rcases U1.own x hx with h | h; exact h; have := (row (some ⟨g, 0, none⟩) m c e sz (over (xs.set j v) (j + 1) vs)).inside w1 x U1.hold hx; exact hx)⟩⟩
    by_cases hi : i ≤ j
    · refine .inl ?_
      have hadd : (⟨g, j - i, none⟩ : Addr).add i = ⟨g, j, none⟩ := by rw [add_lit]; congr 1; omega
      have hrest := (hr (i + 1)).resolve_right (by omega)
      have e1 : j + 1 - (i + 1) = j - i := by omega
      rw [e1] at hrest
      simp [storeCells, hadd, run_store P w _ v .plain hv, stored, hcell, hfr, hrest]
    · exact .inr (by omega)

section
variable {α : Type} [Inhabited α] {enc : α → List Value} {L : List α} {i : Int} {vs : List Value}
theorem flatMap_over (hx : ∀ x, (enc x).length = sz) : ∀ (L : List α) (k j : Nat) (vs : List Value) (x' y : α), L[k]? = some y → j + vs.length ≤ sz → over (enc y) j vs = enc x' → over (L.flatMap enc) (k * sz + j) vs = (L.set k x').flatMap enc
  | [], k, j, vs, x', y, h, _, _ => by simp at h
  | z :: L, 0, j, vs, x', y, h, hj, ho => by
    simp at h; subst h
    have hz := hx z
    rw [over_eq _ _ _ (by simp only [List.flatMap_cons, List.length_append, Nat.zero_mul]; omega), Nat.zero_mul, Nat.zero_add]
    rw [over_eq _ _ _ (by rw [hz]; omega)] at ho
    simp only [List.flatMap_cons, List.set_cons_zero, ← ho]
    rw [List.take_append_of_le_length (by omega), List.drop_append_of_le_length (by omega)]
    simp
  | z :: L, k + 1, j, vs, x', y, h, hj, ho => by
    have ih := flatMap_over hx L k j vs x' y (by simpa using h) hj ho
    have hz := hx z
    have hk : k < L.length := by
      rcases Nat.lt_or_ge k L.length with h' | h'
      · exact h'
      · simp [List.getElem?_eq_none h'] at h
    have hlen := flatMap_len hx L
    have hle : k * sz + j + vs.length ≤ L.length * sz := by
      have : (k + 1) * sz ≤ L.length * sz := Nat.mul_le_mul_right _ hk
      rw [Nat.add_mul] at this; omega
    rw [over_eq _ _ _ (by omega)] at ih
    rw [over_eq _ _ _ (by simp only [List.flatMap_cons, List.length_append]; rw [hlen, hz, Nat.add_mul]; omega)]
    simp only [List.flatMap_cons, List.set_cons_succ, ← ih]
    have e1 : (k + 1) * sz + j = (enc z).length + (k * sz + j) := by rw [Nat.add_mul, hz]; omega
    rw [e1, List.take_length_add_append, Nat.add_assoc, List.drop_length_add_append]
    simp
/-- A store of some cells into an element: x' is the element then. -/
theorem run_store_vec {k : Nat} {x' : α} (H : (vec A c e sz enc L).holds w) (hx : ∀ x, (enc x).length = sz) (h0 : 0 ≤ i) (h1 : i < L.length) (hz : (sizeOf t).run P w = .ok vs.length w) (hk : k + vs.length ≤ sz) (hvs : vs ≠ []) (hone : vs.all Value.oneCell' = true) (ho : over (enc (gt L i)) k vs = enc x')
    (hv : v.cells = vs.toArray) : ∃ w1, (storeVar t (((adr A).add (i.toNat * sz)).add k) v).run P w = .ok () w1 ∧ Upd w (vec A c e sz enc L) (vec A c e sz enc (L.set i.toNat x')) w1 := by
  have hlen := flatMap_len hx L
  have hi : i.toNat < L.length := by omega
  have hg := gt_get h0 h1
  have hle : i.toNat * sz + k + vs.length ≤ L.length * sz := by
    have : (i.toNat + 1) * sz ≤ L.length * sz := Nat.mul_le_mul_right _ hi
    rw [Nat.add_mul] at this; omega
  have hvl : 0 < vs.length := List.length_pos_iff.mpr hvs
  have H' : (row A L.length c e sz (L.flatMap enc)).holds w := H
  obtain ⟨g, rfl⟩ := row_some H' (by intro h0; rw [h0] at hlen; simp at hlen; omega)
  obtain ⟨w1, hr, U⟩ := row_over (P := P) vs (L.flatMap enc) (i.toNat * sz + k) w g H' (by omega) (fun v hv => List.all_eq_true.mp hone v hv)
  have hr0 := (hr 0).resolve_right (by omega)
  refine ⟨w1, ?_, ?_⟩
  · have ha : ((adr (some ⟨g, 0, none⟩)).add (i.toNat * sz)).add k = ⟨g, i.toNat * sz + k, none⟩ := by
      rw [add_add]; show (⟨g, 0, none⟩ : Addr).add _ = _; rw [add_lit, Nat.zero_add]
    simp only [Nat.sub_zero] at hr0
    simp [storeVar, hv, hz, ha, hr0]
  · have e2 := flatMap_over hx L i.toNat k vs x' (gt L i) hg hk ho
    rw [e2] at U
    have hl2 : (L.set i.toNat x').length = L.length := by simp
    unfold vec
    rw [hl2]
    exact U
theorem tr_store_vec {k : Nat} (x' : α) (vs : List Value) (H : (vec A c e sz enc L).holds w) (hx : ∀ x, (enc x).length = sz) (ho : o.op = .store t x y) (hxv : ev l x = some (.pointer (some a))) (ha : a = ((adr A).add (i.toNat * sz)).add k) (hyv : ev l y = some v) (h0 : 0 ≤ i) (h1 : i < L.length) (hz : (sizeOf t).run P w = .ok vs.length w)
    (hk : k + vs.length ≤ sz) (hvs : vs ≠ []) (hone : vs.all Value.oneCell' = true) (hov : over (enc (gt L i)) k vs = enc x') (hv : v.cells = vs.toArray) (hd : o.dst = none) (hg : wants all l o = some true)
    (k : ∀ w1, Upd w (vec A c e sz enc L) (vec A c e sz enc (L.set i.toNat x')) w1 → TrL P n D all rest l w1 Q) : TrL P n D all (o :: rest) l w Q := by
  subst ha
  obtain ⟨w1, hr, U⟩ := run_store_vec (P := P) H hx h0 h1 hz hk hvs hone hov hv
  refine tr_op0 (w' := w1) ?_ hd hg (k w1 U)
  intro ρ k
  simp [execOp, ho, k _ _ hxv, k _ _ hyv, Instr.storeAt, Instr.sureAddr, hr]
theorem tw_store_vec {S : World → Prop} {li : Array Bool} {fuel j k : Nat} (x' : α) (vs : List Value) (H : (vec A c e sz enc L).holds w) (hx : ∀ x, (enc x).length = sz) (hi : all[j]? = some o) (ho : o.op = .store t x y) (hxv : ev l x = some (.pointer (some a))) (ha : a = ((adr A).add (i.toNat * sz)).add k) (hyv : ev l y = some v) (h0 : 0 ≤ i) (h1 : i < L.length) (hz : (sizeOf t).run P w = .ok vs.length w)
    (hk : k + vs.length ≤ sz) (hvs : vs ≠ []) (hone : vs.all Value.oneCell' = true) (hov : over (enc (gt L i)) k vs = enc x') (hv : v.cells = vs.toArray) (hd : o.dst = none) (hg : wants all l o = some true)
    (k : ∀ w1, Upd w (vec A c e sz enc L) (vec A c e sz enc (L.set i.toNat x')) w1 → S w1 ∧ TrH P n D S all fuel (li.setIfInBounds j true) l w1 Q) : TrW P n D S all j fuel li l w Q := by
  subst ha
  obtain ⟨w1, hr, U⟩ := run_store_vec (P := P) H hx h0 h1 hz hk hvs hone hov hv
  have q := k w1 U
  refine tw_op0 (w' := w1) ?_ hi q.1 hd hg q.2
  intro ρ k
  simp [execOp, ho, k _ _ hxv, k _ _ hyv, Instr.storeAt, Instr.sureAddr, hr]
end

/-! ### make -/
theorem madeCells_flat (cs : List Value) (n : Nat) (hs : cs.length = sz) (hsz : 0 < sz) : (madeCells cs.toArray (n * sz)).toList = ((List.replicate n cs).flatten) := by
  apply List.ext_getElem?
  intro j
  have hl : ((List.replicate n cs).flatten).length = n * sz := by simp [hs]
  by_cases hj : j < n * sz
  · have hq : j / sz < n := Nat.div_lt_of_lt_mul (by rw [Nat.mul_comm]; exact hj)
    have hm : j % sz < cs.length := by rw [hs]; exact Nat.mod_lt _ hsz
    have h1 := flatten_get (sz := sz) (List.replicate n cs) (j / sz) (j % sz) cs cs[j % sz] (by intro c hc; rw [List.mem_replicate] at hc; rw [hc.2]; exact hs) (by simp [hq]) (List.getElem?_eq_getElem hm)
    rw [Nat.div_add_mod'] at h1
    rw [h1]
    simp [madeCells, hj, hs]
    rw [List.getElem?_eq_getElem hm]; rfl
  · rw [List.getElem?_eq_none (by simp [madeCells]; omega), List.getElem?_eq_none (by rw [hl]; omega)]
theorem tr_makeSlice {α : Type} {enc : α → List Value} {i : TypeInfo} {k k' : IntKind} {m : Int} (x0 : α) (H : SH w0 F rs w) (ho : o.op = .makeSlice t x y) (ht : P.underlying t = some (.slice e)) (hi : P.info? e = some i) (hz : i.zero = some z) (hs : i.size = sz) (hzc : z.cells = (enc x0).toArray) (hx : ∀ x, (enc x).length = sz) (hsz : 0 < sz)
    (hxv : ev l x = some (.int k m)) (hyv : ev l y = some (.int k' m)) (h0 : 0 ≤ m) (hb : i.bytes * m.toNat ≤ 281474976710656) (hm : m ≤ 281474976710656) (hd : o.dst = some d) (hn : Nat.blt d n = true) (hg : wants all l o = some true)
    (kk : ∀ A c w1, SH w0 F (vec A c e sz enc (List.replicate m.toNat x0) :: rs) w1 → TrL P n D all rest ((d, .slice A (List.replicate m.toNat x0).length c) :: l) w1 Q) : TrL P n D all (o :: rest) l w Q := by
  obtain ⟨q, rfl⟩ := Int.eq_ofNat_of_zero_le h0
  simp only [Int.toNat_natCast] at hb kk
  obtain ⟨w', hr, hown, hgr⟩ := run_make_full (P := P) w 0 t e i z sz ht hi hz hs k k' q hb (by simp [maxLen]; omega) (Nat.zero_le _)
  rw [hzc, madeCells_flat (enc x0) q (hx x0) hsz] at hown
  have hl : (List.replicate q x0).length = q := by simp
  have hfl : (List.replicate q (enc x0)).flatten = (List.replicate q x0).flatMap enc := by rw [List.flatMap_def, List.map_replicate]
  rw [hfl] at hown
  have U : Upd w emp (vec (some ⟨w.heap.size, 0, none⟩) q e sz enc (List.replicate q x0)) w' := by
    refine ⟨hgr.os, hgr.tape, hgr.output, hgr.size, fun b hb _ => hgr.block b hb (by simp), ?_, fun b hb => .inr (by have hb : w.heap.size = b := hb; omega)⟩
    unfold vec
    rw [hl]
    exact hown
  refine tr_op (w' := w') ?_ hd hn hg (kk _ q w' (H.add U))
  intro ρ kq
  rw [hl]
  simp [execOp, ho, kq _ _ hxv, kq _ _ hyv, hr]
end

/-! ### Several resources handed over -/
/-- The resources hold, and lie apart. -/
def Own (pre : List Res) (w : World) : Prop := (∀ r, r ∈ pre → r.holds w) ∧ pre.Pairwise (fun r s => ∀ b, r.foot b → ¬ s.foot b)
def footAll (pre : List Res) : Nat → Prop := fun b => ∃ r, r ∈ pre ∧ r.foot b
section
variable {pre post rs : List Res} {w w' w0 : World} {F : Nat → Prop}
theorem SH.ofOwn (h : Own pre w) : SH w (footAll pre) pre w := SH.ownAll h.1 h.2
theorem SH.own_ (pre : List Res) (H : SH w0 F (pre ++ rs) w) : Own pre w := ⟨fun r hr => H.hold r (List.mem_append_left _ hr), (List.pairwise_append.mp H.disj).1⟩
theorem SH.callP (H : SH w0 F (pre ++ rs) w) (C : SH w (footAll pre) post w') : SH w0 F (post ++ rs) w' := SH.call H (fun _ h => h) C
theorem SH.call2 {r s : Res} (H : SH w0 F (r :: s :: rs) w) (C : SH w (footAll [r, s]) post w') : SH w0 F (post ++ rs) w' := SH.call (pre := [r, s]) H (fun _ h => h) C
theorem SH.call3 {r s t : Res} (H : SH w0 F (r :: s :: t :: rs) w) (C : SH w (footAll [r, s, t]) post w') : SH w0 F (post ++ rs) w' := SH.call (pre := [r, s, t]) H (fun _ h => h) C
theorem SH.call4 {r s t u : Res} (H : SH w0 F (r :: s :: t :: u :: rs) w) (C : SH w (footAll [r, s, t, u]) post w') : SH w0 F (post ++ rs) w' := SH.call (pre := [r, s, t, u]) H (fun _ h => h) C
end
end Go.Proofs.Ytblipnjjgbggiaa
