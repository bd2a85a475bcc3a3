/- Maps that are gone through; entries that are laid anew or over; arrays that are read as values; lists of resources. Conditions: none. -/
import Derived.Test.YtblipnjjgbggiaaRop
import Derived.Maps.RangeRun
namespace Go.Proofs.Ytblipnjjgbggiaa
open Go Go.RowKit
set_option linter.unusedVariables false
set_option linter.unusedSectionVars false
set_option linter.unusedSimpArgs false
section
variable {P : Program} {n : Nat} {D : List Deferred} {Q : Exit → Act → World → Prop} {w w' w0 : World} {F : Nat → Prop} {rs : List Res} {l : List (Nat × Value)} {all : Array Oper} {o : Oper} {rest : List Oper} {d : Nat}
  {t e kt et : TypeId} {x y z : Operand} {v : Value}
/-! ### going through a map -/
section
variable {α : Type} {ik : IntKind} {encV : α → Value} {E : List (Int × α × Nat)} {b r ck since c0 : Nat} {seen : Array Nat} {k : Int} {u : α}
def iterR (r m since : Nat) (seen : Array Nat) (c : Nat) : Res := objR r (.mapIter (some m) since seen c)
theorem tr_range (H : SH w0 F rs w) (h : (mapR b ik encV E ck).holds w) (ho : o.op = .range t x) (ht : P.underlying t = some (.map kt et)) (hx : ev l x = some (.map (some b))) (hd : o.dst = some d) (hn : Nat.blt d n = true) (hg : wants all l o = some true)
    (k : ∀ r w1, SH w0 F (iterR r b ck #[] ck :: rs) w1 → TrL P n D all rest ((d, .pointer (some ⟨r, 0, none⟩)) :: l) w1 Q) : TrL P n D all (o :: rest) l w Q := by
  refine tr_op (w' := w.alloc (.mapIter (some b) ck #[] ck)) ?_ hd hn hg (k _ _ (H.add (upd_allocObj w _)))
  intro ρ q
  have h : w.heap[b]? = some (.map (E.map (ent ik encV)).toArray ck) := h
  simp only [execOp, ho, q _ _ hx, Sem.run_bind, run_range_map (P := P) w t kt et b _ ck ht h, Result.andThen_ok, Sem.run_pure]
theorem mem_leftOf {e : MapEntry} (h : e ∈ (leftOf (E.map (ent ik encV)).toArray seen).toList) : ∃ p, p ∈ E ∧ p.2.2 ∉ seen ∧ e = ent ik encV p := by
  unfold leftOf at h
  simp only [Array.toList_filter, List.mem_filter, List.mem_map] at h
  obtain ⟨⟨p, hp, rfl⟩, h2⟩ := h
  refine ⟨p, hp, ?_, rfl⟩
  intro hc
  simp only [ent] at h2
  simp [Array.contains_iff_mem, hc] at h2
theorem leftOf_nil (h : (leftOf (E.map (ent ik encV)).toArray seen).size = 0) : ∀ p, p ∈ E → p.2.2 ∈ seen := by
  intro p hp
  apply Classical.byContradiction
  intro hc
  unfold leftOf at h
  have hm : ent ik encV p ∈ ((E.map (ent ik encV)).toArray.filter fun e => !seen.contains e.born) := by
    rw [Array.mem_filter]
    refine ⟨by simp; exact ⟨p.1, p.2.1, p.2.2, hp, rfl⟩, ?_⟩
    simp [ent, Array.contains_iff_mem, hc]
  rw [Array.eq_empty_of_size_eq_zero h] at hm
  simp at hm
theorem upd_setBlock (o o' : Obj) (hr : (objR r o).holds w) (w1 : World) (hw : w1 = w ∨ w1 = w.drew) : Upd w (objR r o) (objR r o') (Go.ChangeMaps.setBlock w1 r o') := by
  have hlt := (objR r o).inside w r hr rfl
  rcases hw with rfl | rfl
  · exact ⟨rfl, rfl, rfl, by simp [Go.ChangeMaps.setBlock], fun x hx hne => by
      have hne : x ≠ r := hne
      simp [Go.ChangeMaps.setBlock, Array.getElem?_setIfInBounds, Ne.symm hne], by
      show _ = _
      simp [Go.ChangeMaps.setBlock, Array.getElem?_setIfInBounds, hlt], fun x hx => .inl hx⟩
  · refine ⟨rfl, rfl, rfl, ?_, fun x hx hne => ?_, ?_, fun x hx => .inl hx⟩
    · show w.heap.size ≤ (w.heap.setIfInBounds r o').size
      simp
    · have hne : x ≠ r := hne
      show (w.heap.setIfInBounds r o')[x]? = w.heap[x]?
      simp [Array.getElem?_setIfInBounds, Ne.symm hne]
    · show (w.heap.setIfInBounds r o')[r]? = some o'
      simp [Array.getElem?_setIfInBounds, hlt]
theorem tr_next (hr : (iterR r b since seen c0).holds w) (hm : (mapR b ik encV E ck).holds w) (hold : ∀ p, p ∈ E → p.2.2 < since) (hsc : since ≤ c0) (ho : o.op = .next x false) (hx : ev l x = some (.pointer (some ⟨r, 0, none⟩))) (hd : o.dst = some d) (hn : Nat.blt d n = true) (hg : wants all l o = some true)
    (k0 : (∀ p, p ∈ E → p.2.2 ∈ seen) → TrL P n D all rest ((d, .tuple #[.bool false]) :: l) w Q)
    (k1 : ∀ p, p ∈ E → p.2.2 ∉ seen → ∀ w1, Upd w (iterR r b since seen c0) (iterR r b since (seen.push p.2.2) ck) w1 → TrL P n D all rest ((d, .tuple #[.bool true, .int ik p.1, encV p.2.1]) :: l) w1 Q) : TrL P n D all (o :: rest) l w Q := by
  have hr' : w.heap[r]? = some (.mapIter (some b) since seen c0) := hr
  have hm' : w.heap[b]? = some (.map (E.map (ent ik encV)).toArray ck) := hm
  rcases run_next_at (P := P) w o.type r b since c0 seen _ ck hr' hm' (by intro e he; simp at he; obtain ⟨a, c, q, hp, rfl⟩ := he; exact hold _ hp) hsc with ⟨h0, hrun⟩ | ⟨e, he, w1, hw1, hrun⟩
  · refine tr_op (w' := w) ?_ hd hn hg (k0 (leftOf_nil h0))
    intro ρ q
    simp only [execOp, ho, q _ _ hx, Sem.run_bind, hrun, Result.andThen_ok, Sem.run_pure]
  · obtain ⟨p, hp, hns, rfl⟩ := mem_leftOf he
    refine tr_op (w' := _) ?_ hd hn hg (k1 p hp hns _ (upd_setBlock _ (.mapIter (some b) since (seen.push p.2.2) ck) hr w1 hw1))
    intro ρ q
    simp only [execOp, ho, q _ _ hx, Sem.run_bind, hrun, Result.andThen_ok, Sem.run_pure]
    rfl
theorem ov_entry {p : Int × α × Nat} (hr : (iterR r b since (seen.push p.2.2) ck).holds w) (hm : (mapR b ik encV E ck).holds w) (hp : p ∈ E) (hnd : (E.map (·.2.2)).Nodup) (ho : o.op = .entry x) (hx : ev l x = some (.pointer (some ⟨r, 0, none⟩))) : OpV P l w o (.tuple #[.int ik p.1, encV p.2.1]) := by
  have hr' : w.heap[r]? = some (.mapIter (some b) since (seen.push (ent ik encV p).born) ck) := hr
  have hm' : w.heap[b]? = some (.map (E.map (ent ik encV)).toArray ck) := hm
  intro ρ q
  have hrun := run_entry_at (P := P) w r b since seen _ ck (ent ik encV p) hr' hm' (by simp; exact ⟨p.1, p.2.1, p.2.2, hp, rfl⟩) (by simpa [List.map_map, Function.comp_def, ent] using hnd)
  simp only [execOp, ho, q _ _ hx, Sem.run_bind, hrun, Result.andThen_ok, Sem.run_pure]
  rfl
/-! ### an entry laid anew or over -/
def mset (k : Int) (u : α) (ck : Nat) : List (Int × α × Nat) → List (Int × α × Nat)
  | [] => [(k, u, ck)]
  | e :: E => if k = e.1 then (e.1, u, e.2.2) :: E else e :: mset k u ck E
theorem findE_set : ∀ (E : List (Int × α × Nat)) (i j : Nat) (v : α), findE k E i = some (j, v) → i ≤ j ∧ j - i < E.length ∧ ∃ p, E[j - i]? = some p ∧ mset k u ck E = E.set (j - i) (p.1, u, p.2.2) ∧ k = p.1
  | [], _, _, _, h => by cases h
  | e :: E, i, j, v, h => by
    unfold findE at h
    unfold mset
    by_cases hk : k = e.1
    · rw [if_pos hk] at h ⊢
      simp at h
      rw [← h.1]; simp [hk]
    · rw [if_neg hk] at h ⊢
      obtain ⟨h1, h2, p, h3, h4, h5⟩ := findE_set E (i + 1) j v h
      refine ⟨by omega, by simp; omega, p, ?_, ?_, h5⟩
      · rw [show j - i = (j - (i + 1)) + 1 by omega]; simpa using h3
      · rw [show j - i = (j - (i + 1)) + 1 by omega, List.set_cons_succ, ← h4]
theorem mset_none (h : findE k E 0 = none) : mset k u ck E = E ++ [(k, u, ck)] := by
  have key : ∀ (E : List (Int × α × Nat)) (i : Nat), findE k E i = none → mset k u ck E = E ++ [(k, u, ck)] := by
    intro E
    induction E with
    | nil => intro _ _; rfl
    | cons e E ih =>
      intro i h
      unfold findE at h
      unfold mset
      by_cases hk : k = e.1
      · rw [if_pos hk] at h; cases h
      · rw [if_neg hk] at h ⊢; rw [ih _ h]; rfl
  exact key E 0 h
end
/-! ### arrays as values -/
theorem ov_indexArr {m : Nat} {vs : List Value} {kd : IntKind} {i : Int} (ho : o.op = .index t x y) (ht : P.underlying t = some (.array m e)) (hz : (sizeOf e).run P w = .ok 1 w) (ha : (isAgg e).run P w = .ok false w) (hx : ev l x = some (.agg vs.toArray)) (hy : ev l y = some (.int kd i)) (h0 : 0 ≤ i) (h1 : i < m) (hv : vs[i.toNat]? = some v) : OpV P l w o v := by
  intro ρ k
  simp [execOp, ho, k _ _ hx, k _ _ hy, Instr.index, asIntOf, run_underlying ht, hz, h0, h1, part, ha, hv]
end
/-! ### one of many resources -/
section
variable {w w' w0 : World} {F : Nat → Prop} {β : Type} [Inhabited β] {f : β → Res} {Z : List β} {k : Int}
theorem SH.atGet (pre : List Res) (H : SH w0 F (pre ++ Z.map f) w) (h0 : 0 ≤ k) (h1 : k < Z.length) : (f (gt Z k)).holds w :=
  H.hold _ (List.mem_append_right _ (List.mem_map.mpr ⟨gt Z k, gt_mem h0 h1, rfl⟩))
/-- A call that owns one of many. -/
theorem SH.atCall (pre : List Res) (z : β) (ex : List Res) (H : SH w0 F (pre ++ Z.map f) w) (h0 : 0 ≤ k) (h1 : k < Z.length) (C : SH w (f (gt Z k)).foot (ex ++ [f z]) w') : SH w0 F (ex ++ (pre ++ (Z.set k.toNat z).map f)) w' := by
  have e0 : Z = Z.take k.toNat ++ gt Z k :: Z.drop (k.toNat + 1) := by
    have := (List.take_append_drop k.toNat Z).symm
    rw [drop_gt h0 h1, show (k + 1).toNat = k.toNat + 1 by omega] at this
    exact this
  have e2 : Z.set k.toNat z = Z.take k.toNat ++ z :: Z.drop (k.toNat + 1) := by
    conv => lhs; rw [e0]
    rw [List.set_append_right _ _ (by simp; omega), List.length_take, Nat.min_eq_left (by omega), Nat.sub_self]
    rfl
  have H1 : SH w0 F ((pre ++ (Z.take k.toNat).map f) ++ f (gt Z k) :: (Z.drop (k.toNat + 1)).map f) w := by
    rw [e0] at H; simpa using H
  have H2 := SH.call (pre := [f (gt Z k)]) (rs := (pre ++ (Z.take k.toNat).map f) ++ (Z.drop (k.toNat + 1)).map f) (H1.perm List.perm_middle) (fun b hb => ⟨f (gt Z k), by simp, hb⟩) C
  rw [e2]
  have e3 : ex ++ (pre ++ (Z.take k.toNat ++ z :: Z.drop (k.toNat + 1)).map f) = ex ++ ((pre ++ (Z.take k.toNat).map f) ++ f z :: (Z.drop (k.toNat + 1)).map f) := by simp
  rw [e3]
  refine H2.perm ?_
  rw [List.append_assoc]
  exact List.Perm.append_left ex (show (f z :: ((pre ++ (Z.take k.toNat).map f) ++ (Z.drop (k.toNat + 1)).map f)).Perm _ from List.perm_middle.symm)
end
end Go.Proofs.Ytblipnjjgbggiaa
