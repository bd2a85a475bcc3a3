/- A map's entry laid over, or laid anew. Conditions: none. -/
import Derived.Test.YtblipnjjgbggiaaRmap
namespace Go.Proofs.Ytblipnjjgbggiaa
open Go Go.RowKit
set_option linter.unusedVariables false
set_option linter.unusedSectionVars false
set_option linter.unusedSimpArgs false
section
variable {α : Type} {ik : IntKind} {encV : α → Value} {E : List (Int × α × Nat)} {P : Program} {w w0 : World} {b ck : Nat}
variable {n : Nat} {D : List Deferred} {Q : Exit → Act → World → Prop} {F : Nat → Prop} {rs : List Res} {l : List (Nat × Value)} {all : Array Oper} {o : Oper} {rest : List Oper} {d : Nat} {t kt et : TypeId} {x y z : Operand} {k : Int} {u : α} {zv : Value}
theorem same_int (ik : IntKind) (k : Int) : Instr.sameBits 10000 (.int ik k) (.int ik k) = true := by
  have h : ∀ n, Instr.sameBits n (.int ik k) (.int ik k) = true := fun n => by cases n <;> simp [Instr.sameBits]
  exact h 10000
theorem run_stays (ik : IntKind) (k : Int) : (Instr.keyThatStays (.int ik k) (.int ik k)).run P w = .ok (.int ik k) w := by
  unfold Instr.keyThatStays
  rw [same_int]; rfl
def msetC (k : Int) (E : List (Int × α × Nat)) (ck : Nat) : Nat := if (mfind k E).isSome then ck else ck + 1
theorem modify_ent {j : Nat} {p : Int × α × Nat} (h : E[j]? = some p) (hk : k = p.1) : (E.map (ent ik encV)).toArray.modify j (fun e => { e with key := .int ik k, val := encV u }) = ((E.set j (p.1, u, p.2.2)).map (ent ik encV)).toArray := by
  rw [List.modify_toArray]
  congr 1
  apply List.ext_getElem?
  intro i
  rw [List.getElem?_modify, List.getElem?_map, List.getElem?_map, List.getElem?_set]
  by_cases hi : j = i
  · subst hi
    have hl : j < E.length := by
      apply Classical.byContradiction
      intro q
      rw [List.getElem?_eq_none (by omega)] at h
      cases h
    subst hk
    simp [hl, h, ent]
    have := List.getElem?_eq_getElem hl
    rw [this] at h
    injection h with h
    rw [h]
  · simp [hi]
theorem or_mapSet (h : (mapR b ik encV E ck).holds w) (ho : o.op = .mapUpdate t x y z) (ht : P.underlying t = some (.map kt et)) (hk : P.underlying kt = some (.int ik)) (hx : ev l x = some (.map (some b))) (hy : ev l y = some (.int ik k)) (hz : ev l z = some (encV u)) :
    OpR P l w o .skip (w.putObj b (.map ((mset k u ck E).map (ent ik encV)).toArray (msetC k E ck))) := by
  intro ρ q
  have e := findE_mfind k E 0
  simp only [execOp, ho, q _ _ hx, q _ _ hy, q _ _ hz, Instr.mapUpdate, Sem.run_bind, run_underlying ht, run_getObj_map h, run_checkKey_int hk, List.toList_toArray, run_findKey_int hk, Result.andThen_ok]
  cases hf : findE k E 0 with
  | none =>
    have hm : msetC k E ck = ck + 1 := by unfold msetC; rw [← e, hf]; rfl
    rw [mset_none hf, hm]
    simp only [Option.map_none, run_setObj_map _ h, Result.andThen_ok, Sem.run_pure]
    simp [ent]
  | some r =>
    obtain ⟨j, v⟩ := r
    obtain ⟨h1, h2, p, h3, h4, h5⟩ := findE_set E 0 j v hf
    have hm : msetC k E ck = ck := by unfold msetC; rw [← e, hf]; rfl
    rw [Nat.sub_zero] at h3 h4
    rw [h4, hm, ← modify_ent h3 h5]
    have hg : (((E.map (ent ik encV)).toArray[j]?).map (·.key)).getD (.int ik k) = .int ik k := by
      simp [h3, ent, h5]
    simp only [Option.map_some, Sem.run_bind, hg, run_stays, Result.andThen_ok, run_setObj_map _ h, Sem.run_pure]
theorem tr_mapSet (h : (mapR b ik encV E ck).holds w) (ho : o.op = .mapUpdate t x y z) (ht : P.underlying t = some (.map kt et)) (hk : P.underlying kt = some (.int ik)) (hx : ev l x = some (.map (some b))) (hy : ev l y = some (.int ik k)) (hz : ev l z = some (encV u)) (hd : o.dst = none) (hg : wants all l o = some true)
    (kk : ∀ w1, Upd w (mapR b ik encV E ck) (mapR b ik encV (mset k u ck E) (msetC k E ck)) w1 → TrL P n D all rest l w1 Q) : TrL P n D all (o :: rest) l w Q :=
  tr_op0 (or_mapSet h ho ht hk hx hy hz) hd hg (kk _ (upd_map h))
theorem mfind_mset : ∀ (E : List (Int × α × Nat)) (i : Int), mfind i (mset k u ck E) = if i = k then some u else mfind i E
  | [], i => by
    unfold mset mfind
    by_cases q : i = k <;> simp [q]
  | e :: E, i => by
    have ih := mfind_mset E i
    unfold mset
    by_cases hk : k = e.1
    · rw [if_pos hk]
      unfold mfind
      by_cases q : i = e.1
      · simp [q, hk]
      · have q2 : ¬ i = k := by rw [hk]; exact q
        simp [q, q2]
    · rw [if_neg hk]
      unfold mfind at ih ⊢
      by_cases q : i = e.1
      · have q2 : ¬ i = k := fun z => hk (by rw [← z, q])
        simp [q, q2]
        intro z; exact absurd z.symm hk
      · simp only [List.find?_cons, decide_eq_false q]
        exact ih
theorem mfind_mdel : ∀ (E : List (Int × α × Nat)) (i : Int), (E.map (·.1)).Nodup → mfind i (mdel k E) = if i = k then none else mfind i E
  | [], i, _ => by simp [mdel, mfind]
  | e :: E, i, hn => by
    have hn' : (e.1 :: E.map (·.1)).Nodup := hn
    rw [List.nodup_cons] at hn'
    have ih := mfind_mdel E i hn'.2
    unfold mdel
    by_cases hk : k = e.1
    · rw [if_pos hk]
      by_cases q : i = k
      · rw [if_pos q]
        unfold mfind
        rw [List.find?_eq_none.mpr]; rfl
        intro x hx z
        exact hn'.1 (List.mem_map.mpr ⟨x, hx, by rw [← hk, ← q]; exact (of_decide_eq_true z).symm⟩)
      · rw [if_neg q]
        unfold mfind
        have q2 : ¬ i = e.1 := by rw [← hk]; exact q
        simp only [List.find?_cons, decide_eq_false q2]
    · rw [if_neg hk]
      unfold mfind at ih ⊢
      by_cases q : i = e.1
      · have q2 : ¬ i = k := fun z => hk (by rw [← z, q])
        simp [q]
        intro z; exact absurd z.symm hk
      · simp only [List.find?_cons, decide_eq_false q]
        exact ih
theorem mset_keys : ∀ (E : List (Int × α × Nat)), (mset k u ck E).map (·.1) = if (mfind k E).isSome then E.map (·.1) else E.map (·.1) ++ [k]
  | [] => by simp [mset, mfind]
  | e :: E => by
    have ih := mset_keys E
    unfold mset
    by_cases hk : k = e.1
    · rw [if_pos hk]; unfold mfind; simp [hk]
    · rw [if_neg hk]
      unfold mfind at ih ⊢
      simp only [List.map_cons, List.find?_cons, decide_eq_false hk, ih]
      split <;> simp
theorem mfind_key {i : Int} (h : (mfind i E).isSome = false) : ∀ e, e ∈ E → e.1 ≠ i := by
  intro e he q
  unfold mfind at h
  rw [Option.isSome_map] at h
  have := List.find?_eq_none.mp (Option.isSome_eq_false_iff.mp h |> Option.isNone_iff_eq_none.mp) e he
  simp [q] at this
theorem mset_nodup (h : (E.map (·.1)).Nodup) : ((mset k u ck E).map (·.1)).Nodup := by
  rw [mset_keys]
  cases hf : (mfind k E).isSome with
  | true => simpa using h
  | false =>
    simp only [Bool.false_eq_true, if_false]
    rw [List.nodup_append]
    refine ⟨h, by simp, ?_⟩
    intro a ha b hb q
    simp at hb
    obtain ⟨e, he, rfl⟩ := List.mem_map.mp ha
    exact mfind_key hf e he (q.trans hb)
theorem mdel_subl : ∀ (E : List (Int × α × Nat)), (mdel k E).Sublist E
  | [] => List.Sublist.refl _
  | e :: E => by
    unfold mdel
    split
    · exact List.sublist_cons_self _ _
    · exact (mdel_subl E).cons_cons _
theorem mdel_nodup (h : (E.map (·.1)).Nodup) : ((mdel k E).map (·.1)).Nodup := List.Nodup.sublist ((mdel_subl E).map _) h
end
theorem mfind_mem {α : Type} {E : List (Int × α × Nat)} {k : Int} : (mfind k E).isSome = true ↔ k ∈ E.map (·.1) := by
  unfold mfind
  rw [Option.isSome_map, List.find?_isSome]
  constructor
  · rintro ⟨e, he, q⟩; exact List.mem_map.mpr ⟨e, he, (of_decide_eq_true q).symm⟩
  · intro h; obtain ⟨e, he, rfl⟩ := List.mem_map.mp h; exact ⟨e, he, decide_eq_true rfl⟩
def AllT (E : List (Int × Bool × Nat)) : Prop := ∀ e, e ∈ E → e.2.1 = true
theorem met_val {E : List (Int × Bool × Nat)} (h : AllT E) (k : Int) : ((mfind k E).map Value.bool).getD (.bool false) = .bool (mfind k E).isSome := by
  unfold mfind
  cases hf : E.find? (fun e => decide (k = e.1)) with
  | none => rfl
  | some e => simp [h e (List.mem_of_find?_eq_some hf)]
theorem AllT.set {E : List (Int × Bool × Nat)} (h : AllT E) {k : Int} {ck : Nat} : AllT (mset k true ck E) := by
  induction E with
  | nil => intro e he; simp [mset] at he; rw [he]
  | cons a E ih =>
    unfold mset
    split
    · intro e he
      rcases List.mem_cons.mp he with q | q
      · rw [q]
      · exact h e (List.mem_cons_of_mem _ q)
    · intro e he
      rcases List.mem_cons.mp he with q | q
      · rw [q]; exact h a (List.mem_cons_self ..)
      · exact ih (fun e he => h e (List.mem_cons_of_mem _ he)) e q
end Go.Proofs.Ytblipnjjgbggiaa
