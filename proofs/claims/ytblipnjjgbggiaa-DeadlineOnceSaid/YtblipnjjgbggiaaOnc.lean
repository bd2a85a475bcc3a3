/- Plain part of DeadlineOnce. Conditions: none. -/
import Derived.Test.YtblipnjjgbggiaaMapset
import Derived.Test.YtblipnjjgbggiaaDlA
namespace Go.Proofs.Ytblipnjjgbggiaa
open Go Go.RowKit
set_option linter.unusedVariables false
set_option linter.unusedSimpArgs false
theorem ov_fieldV {P : Program} {l : List (Nat × Value)} {w : World} {o : Oper} {t : TypeId} {x : Operand} {i : Nat} {fs : Array Field} {f : Field} {vs : Array Value} {v : Value} (ho : o.op = .field t x i) (ht : P.underlying t = some (.struct fs)) (hf : fs[i]? = some f) (hagg : (isAgg f.type).run P w = .ok false w) (hx : ev l x = some (.agg vs)) (hv : vs[f.offset]? = some v) : OpV P l w o v := by
  intro ρ k
  simp [execOp, ho, k _ _ hx, Instr.field, run_underlying ht, hf, asAgg, part, hagg, hv]
theorem findT_drop {id i : Int} {X : List Thing} (h : Ids X) : findT i (dropT id X) = if i = id then none else findT i X := by
  by_cases q : i = id
  · subst q; rw [if_pos rfl, dropT_gone h]
  · rw [if_neg q]
    cases hf : findT i X with
    | none =>
      exact findT_none.mpr fun t ht => findT_none.mp hf t (dropT_sub.subset ht)
    | some t =>
      have h1 := findT_some hf
      have h2 : t ∈ dropT id X := (mem_dropT h).mpr ⟨h1.1, by rw [h1.2]; exact q⟩
      rw [← h1.2]
      exact findT_mem (h.sub dropT_sub) h2
theorem findT_snoc {i : Int} {X : List Thing} {t : Thing} : findT i (X ++ [t]) = (findT i X).or (if i = t.id then some t else none) := by
  unfold findT
  rw [List.find?_append]
  congr 1
  by_cases q : i = t.id <;> simp [q]
structure Arm (X : List Thing) (E : List (Int × Thing × Nat)) : Prop where
  find : ∀ i, mfind i E = findT i X
  keys : (E.map (·.1)).Nodup
theorem Arm.nil : Arm [] [] := ⟨fun i => rfl, List.nodup_nil⟩
theorem Arm.del {X : List Thing} {E : List (Int × Thing × Nat)} {id : Int} (h : Arm X E) (hi : Ids X) : Arm (dropT id X) (mdel id E) :=
  ⟨fun i => by rw [mfind_mdel E i h.keys, findT_drop hi, h.find], mdel_nodup h.keys⟩
theorem Arm.set {X : List Thing} {E : List (Int × Thing × Nat)} {id n due : Int} {ck : Nat} (h : Arm X E) (hi : Ids X) : Arm (dropT id X ++ [⟨id, n, due⟩]) (mset id ⟨id, n, due⟩ ck E) :=
  ⟨fun i => by
    rw [mfind_mset, findT_snoc, findT_drop hi, h.find]
    by_cases q : i = id
    · simp [q]
    · simp [q], mset_nodup h.keys⟩
theorem Arm.len {X : List Thing} {E : List (Int × Thing × Nat)} (h : Arm X E) (hi : Ids X) : E.length = X.length := by
  have p : (E.map (·.1)).Perm (X.map (·.id)) := (List.perm_ext_iff_of_nodup h.keys hi).mpr fun k => by
    rw [← mfind_mem, h.find]
    constructor
    · intro q
      obtain ⟨t, ht⟩ := Option.isSome_iff_exists.mp q
      have := findT_some ht
      exact List.mem_map.mpr ⟨t, this⟩
    · intro q
      obtain ⟨t, ht, rfl⟩ := List.mem_map.mp q
      rw [findT_mem hi ht]; rfl
  have := p.length_eq
  simpa using this
/-- While what was told is struck out. -/
structure ArmK (X F : List Thing) (k : Int) (E : List (Int × Thing × Nat)) : Prop where
  find : ∀ i, mfind i E = if i ∈ (F.take k.toNat).map (·.id) then none else findT i X
  keys : (E.map (·.1)).Nodup
def firedX (at_ : Int) (X : List Thing) : List Thing := sortT (X.filter fun t => decide (t.due ≤ at_))
theorem firedX_mem {at_ : Int} {X : List Thing} {t : Thing} : t ∈ firedX at_ X ↔ t ∈ X ∧ t.due ≤ at_ := by
  unfold firedX; rw [(sortT_perm _).mem_iff, List.mem_filter]; simp
theorem firedX_ids {at_ : Int} {X : List Thing} (h : Ids X) : Ids (firedX at_ X) := (h.sub List.filter_sublist).perm (sortT_perm _).symm
theorem firedX_le {at_ : Int} {X : List Thing} : (firedX at_ X).length ≤ X.length := by
  unfold firedX; rw [(sortT_perm _).length_eq]; exact List.length_filter_le _ _
theorem not_ahead {l : List Thing} (h : Ids l) {k : Int} (h0 : 0 ≤ k) (h1 : k < l.length) : (gt l k).id ∉ (l.take k.toNat).map (·.id) := by
  have e : l = l.take k.toNat ++ gt l k :: l.drop (k.toNat + 1) := by
    rw [gt_eq h0 h1, List.getElem_cons_drop, List.take_append_drop]
  intro q
  have hn : Ids (l.take k.toNat ++ gt l k :: l.drop (k.toNat + 1)) := e ▸ h
  unfold Ids at hn
  rw [List.map_append, List.nodup_append] at hn
  exact hn.2.2 _ q _ (List.mem_map.mpr ⟨_, List.mem_cons_self .., rfl⟩) rfl
theorem Arm.start {X F : List Thing} {E : List (Int × Thing × Nat)} (h : Arm X E) : ArmK X F 0 E := ⟨fun i => by rw [h.find]; simp, h.keys⟩
theorem ArmK.look {X : List Thing} {at_ k : Int} {E : List (Int × Thing × Nat)} (h : ArmK X (firedX at_ X) k E) (hi : Ids X) (h0 : 0 ≤ k) (h1 : k < (firedX at_ X).length) : mfind (gt (firedX at_ X) k).id E = some (gt (firedX at_ X) k) := by
  rw [h.find, if_neg (not_ahead (firedX_ids hi) h0 h1)]
  exact findT_mem hi (firedX_mem.mp (gt_mem h0 h1)).1
theorem ArmK.step {X F : List Thing} {k : Int} {E : List (Int × Thing × Nat)} (h : ArmK X F k E) (h0 : 0 ≤ k) (h1 : k < F.length) : ArmK X F (k + 1) (mdel (gt F k).id E) :=
  ⟨fun i => by
    rw [mfind_mdel E i h.keys, h.find, take_gt h0 h1, List.map_append]
    by_cases q : i = (gt F k).id
    · simp [q]
    · simp [q], mdel_nodup h.keys⟩
theorem ArmK.stop {X : List Thing} {at_ k : Int} {E : List (Int × Thing × Nat)} (h : ArmK X (firedX at_ X) k E) (hi : Ids X) (hk : k = (firedX at_ X).length) : Arm (X.filter fun t => decide (at_ < t.due)) E := by
  refine ⟨fun i => ?_, h.keys⟩
  rw [h.find, hk, Int.toNat_natCast, List.take_length]
  have hif : Ids (X.filter fun t => decide (at_ < t.due)) := hi.sub List.filter_sublist
  cases hf : findT i X with
  | none =>
    have h1 : findT i (X.filter fun t => decide (at_ < t.due)) = none := findT_none.mpr fun t ht => findT_none.mp hf t (List.mem_filter.mp ht).1
    rw [h1]; split <;> rfl
  | some t =>
    have h1 := findT_some hf
    by_cases q : t.due ≤ at_
    · have hm : i ∈ (firedX at_ X).map (·.id) := List.mem_map.mpr ⟨t, firedX_mem.mpr ⟨h1.1, q⟩, h1.2⟩
      rw [if_pos hm]
      refine (findT_none.mpr fun u hu e => ?_).symm
      have hu' := List.mem_filter.mp hu
      have := hi.uniq h1.1 hu'.1 (h1.2.trans e)
      subst this
      have := of_decide_eq_true hu'.2
      omega
    · have hm : i ∉ (firedX at_ X).map (·.id) := fun z => by
        obtain ⟨u, hu, e⟩ := List.mem_map.mp z
        have hu' := firedX_mem.mp hu
        have := hi.uniq hu'.1 h1.1 (e.trans h1.2.symm)
        subst this
        exact q hu'.2
      rw [if_neg hm, ← h1.2]
      exact (findT_mem hif (List.mem_filter.mpr ⟨h1.1, decide_eq_true (by omega)⟩)).symm
theorem look_th (o : Option Thing) : ((o.map encTh).getD (.agg #[.int .u64 0, .int .u64 0, .int .i64 0])) = .agg #[.int .u64 (tOr o).id, .int .u64 (tOr o).gen, .int .i64 (tOr o).due] := by cases o <;> rfl
theorem Arm.late {X : List Thing} {E : List (Int × Thing × Nat)} {at_ i : Int} (h : Arm (X.filter fun t => decide (at_ < t.due)) E) (q : (mfind i E).isSome = true) : at_ < (tOr (mfind i E)).due := by
  obtain ⟨t, ht⟩ := Option.isSome_iff_exists.mp q
  rw [ht]
  rw [h.find] at ht
  have := List.mem_filter.mp (findT_some ht).1
  exact of_decide_eq_true this.2
/-- The numbers given. -/
structure Giv (last : Int) (E : List (Int × Bool × Nat)) : Prop where
  all : AllT E
  le : ∀ k, k ∈ E.map (·.1) → k ≤ last
theorem Giv.nil : Giv 0 [] := ⟨fun e h => (by cases h), fun k h => (by cases h)⟩
theorem Giv.mono {last last' : Int} {E : List (Int × Bool × Nat)} (h : Giv last E) (hl : last ≤ last') : Giv last' E := ⟨h.all, fun k hk => by have := h.le k hk; omega⟩
theorem Giv.new {last : Int} {E : List (Int × Bool × Nat)} (h : Giv last E) : (mfind (last + 1) E).isSome = false := by
  cases q : (mfind (last + 1) E).isSome with
  | false => rfl
  | true => have := h.le _ (mfind_mem.mp q); omega
theorem Giv.set {last : Int} {E : List (Int × Bool × Nat)} {ck : Nat} (h : Giv last E) : Giv (last + 1) (mset (last + 1) true ck E) :=
  ⟨h.all.set, fun k hk => by
    rw [mset_keys, h.new] at hk
    simp only [Bool.false_eq_true, if_false] at hk
    rcases List.mem_append.mp hk with q | q
    · have := h.le k q; omega
    · simp at q; omega⟩
end Go.Proofs.Ytblipnjjgbggiaa
