/- Maps whose keys are numbers. Conditions: none. -/
import Derived.Test.YtblipnjjgbggiaaObj
namespace Go.Proofs.Ytblipnjjgbggiaa
open Go Go.RowKit
set_option linter.unusedVariables false
set_option linter.unusedSectionVars false
set_option linter.unusedSimpArgs false
section
variable {α : Type} {ik : IntKind} {encV : α → Value} {E : List (Int × α × Nat)} {P : Program} {w w0 : World} {b ck : Nat}
def ent (ik : IntKind) (encV : α → Value) (e : Int × α × Nat) : MapEntry := { key := .int ik e.1, val := encV e.2.1, born := e.2.2 }
def mapR (b : Nat) (ik : IntKind) (encV : α → Value) (E : List (Int × α × Nat)) (ck : Nat) : Res := objR b (.map (E.map (ent ik encV)).toArray ck)
def mfind (k : Int) (E : List (Int × α × Nat)) : Option α := (E.find? fun e => decide (k = e.1)).map (·.2.1)
def findE (k : Int) : List (Int × α × Nat) → Nat → Option (Nat × α)
  | [], _ => none
  | e :: E, i => if k = e.1 then some (i, e.2.1) else findE k E (i + 1)
theorem findE_mfind (k : Int) : ∀ (E : List (Int × α × Nat)) (i : Nat), (findE k E i).map (·.2) = mfind k E
  | [], _ => rfl
  | e :: E, i => by
    have ih := findE_mfind k E (i + 1)
    unfold mfind at ih ⊢
    unfold findE
    by_cases h : k = e.1
    · rw [if_pos h, List.find?_cons, decide_eq_true h]; rfl
    · rw [if_neg h, List.find?_cons, decide_eq_false h]; exact ih
theorem findNow_int (ik' : IntKind) (k : Int) : ∀ (E : List (Int × α × Nat)) (i : Nat), Instr.findNow (.int ik') (.int ik k) (E.map (ent ik encV)) i = some ((findE k E i).map fun p => (p.1, encV p.2))
  | [], _ => rfl
  | e :: E, i => by
    simp only [List.map_cons, Instr.findNow, ent, Instr.sameNow, if_true]
    unfold findE
    by_cases h : k = e.1
    · rw [if_pos h]; simp [h]
    · rw [if_neg h]
      have hb : (k == e.1) = false := by simpa using h
      rw [hb]; exact findNow_int ik' k E (i + 1)
theorem run_findKey_int {kt : TypeId} (hk : P.underlying kt = some (.int ik)) (k : Int) (E : List (Int × α × Nat)) : (Instr.findKey kt (.int ik k) (E.map (ent ik encV))).run P w = .ok ((findE k E 0).map fun p => (p.1, encV p.2)) w := by
  simp [Instr.findKey, run_underlying hk, findNow_int]
theorem run_checkKey_d {kt : TypeId} (hk : P.underlying kt = some (.int ik)) (e : Bool) (k : Int) (d : Nat) : (Instr.checkKey e (d + 1) kt (.int ik k)).run P w = .ok () w := by
  simp [Instr.checkKey, run_underlying hk]
theorem run_checkKey_int {kt : TypeId} (hk : P.underlying kt = some (.int ik)) (e : Bool) (k : Int) : (Instr.checkKey e 10000 kt (.int ik k)).run P w = .ok () w := run_checkKey_d hk e k 9999
theorem run_getObj_map (h : (mapR b ik encV E ck).holds w) : (getObj b).run P w = .ok (.map (E.map (ent ik encV)).toArray ck) w := by
  have h : w.heap[b]? = some (.map (E.map (ent ik encV)).toArray ck) := h
  simp [getObj, Sem.run, h]
theorem run_setObj_map (o : Obj) (h : (mapR b ik encV E ck).holds w) : (setObj b o).run P w = .ok () (w.putObj b o) := by
  have h : w.heap[b]? = some (.map (E.map (ent ik encV)).toArray ck) := h
  simp [setObj, Sem.run, h, World.putObj]
variable {n : Nat} {D : List Deferred} {Q : Exit → Act → World → Prop} {F : Nat → Prop} {rs : List Res} {l : List (Nat × Value)} {all : Array Oper} {o : Oper} {rest : List Oper} {d : Nat} {t kt et : TypeId} {x y z : Operand} {k : Int} {v : α} {zv : Value}
theorem ov_lookup (h : (mapR b ik encV E ck).holds w) (ho : o.op = .lookup t x y true) (ht : P.underlying t = some (.map kt et)) (hk : P.underlying kt = some (.int ik)) (hz : (zeroValue et).run P w = .ok zv w) (hx : ev l x = some (.map (some b))) (hy : ev l y = some (.int ik k)) :
    OpV P l w o (.tuple #[((mfind k E).map encV).getD zv, .bool (mfind k E).isSome]) := by
  intro ρ q
  have e := findE_mfind k E 0
  simp only [execOp, ho, q _ _ hx, q _ _ hy, Instr.lookup, Sem.run_bind, run_underlying ht, run_getObj_map h, run_checkKey_int hk, List.toList_toArray, run_findKey_int hk, Result.andThen_ok, Sem.run_pure]
  rw [← e]
  cases findE k E 0 with
  | none => simp [hz]
  | some p => simp
theorem ov_lookup1 (h : (mapR b ik encV E ck).holds w) (ho : o.op = .lookup t x y false) (ht : P.underlying t = some (.map kt et)) (hk : P.underlying kt = some (.int ik)) (hz : (zeroValue et).run P w = .ok zv w) (hx : ev l x = some (.map (some b))) (hy : ev l y = some (.int ik k)) :
    OpV P l w o (((mfind k E).map encV).getD zv) := by
  intro ρ q
  have e := findE_mfind k E 0
  simp only [execOp, ho, q _ _ hx, q _ _ hy, Instr.lookup, Sem.run_bind, run_underlying ht, run_getObj_map h, run_checkKey_int hk, List.toList_toArray, run_findKey_int hk, Result.andThen_ok, Sem.run_pure]
  rw [← e]
  cases findE k E 0 with
  | none => simp [hz]
  | some p => simp
theorem ov_lenMap (h : (mapR b ik encV E ck).holds w) {ats : Array TypeId} (ho : o.op = .call { callee := .builtin .len, args := #[x], argTypes := ats }) (hat : ats = #[t]) (ht : P.underlying t = some (.map kt et)) (hx : ev l x = some (.map (some b))) : OpV P l w o (.int .i64 E.length) := by
  have := ov_lenM (P := P) (w := w) (l := l) (es := (E.map (ent ik encV)).toArray) (ck := ck) ho hat ht hx h
  simpa using this
theorem or_makeMap (ho : o.op = .makeMap t none) : OpR P l w o (.value (.map (some w.heap.size))) (w.alloc (.map #[] 0)) := by
  intro ρ q; simp [execOp, ho, Instr.makeMap, run_newObj_alloc]
theorem tr_makeMap (ik : IntKind) (encV : α → Value) (H : SH w0 F rs w) (ho : o.op = .makeMap t none) (hd : o.dst = some d) (hn : Nat.blt d n = true) (hg : wants all l o = some true)
    (k : ∀ b w1, SH w0 F (mapR b ik encV [] 0 :: rs) w1 → TrL P n D all rest ((d, .map (some b)) :: l) w1 Q) : TrL P n D all (o :: rest) l w Q :=
  tr_op (or_makeMap ho) hd hn hg (k _ _ (H.add (upd_allocObj w _)))
theorem findE_none (hf : mfind k E = none) (i : Nat) : findE k E i = none := by
  have := findE_mfind k E i
  rw [hf] at this
  cases h : findE k E i with
  | none => rfl
  | some p => rw [h] at this; cases this
theorem upd_map {E' : List (Int × α × Nat)} {ck' : Nat} (h : (mapR b ik encV E ck).holds w) : Upd w (mapR b ik encV E ck) (mapR b ik encV E' ck') (w.putObj b (.map (E'.map (ent ik encV)).toArray ck')) := upd_putObj _ h
theorem or_mapNew (h : (mapR b ik encV E ck).holds w) (hf : mfind k E = none) (ho : o.op = .mapUpdate t x y z) (ht : P.underlying t = some (.map kt et)) (hk : P.underlying kt = some (.int ik)) (hx : ev l x = some (.map (some b))) (hy : ev l y = some (.int ik k)) (hz : ev l z = some (encV v)) :
    OpR P l w o .skip (w.putObj b (.map ((E ++ [(k, v, ck)]).map (ent ik encV)).toArray (ck + 1))) := by
  intro ρ q
  simp only [execOp, ho, q _ _ hx, q _ _ hy, q _ _ hz, Instr.mapUpdate, Sem.run_bind, run_underlying ht, run_getObj_map h, run_checkKey_int hk, List.toList_toArray, run_findKey_int hk, Result.andThen_ok, findE_none hf, Option.map_none, run_setObj_map _ h]
  simp [ent]
def mdel (k : Int) : List (Int × α × Nat) → List (Int × α × Nat)
  | [] => []
  | e :: E => if k = e.1 then E else e :: mdel k E
theorem findE_del : ∀ (E : List (Int × α × Nat)) (i j : Nat) (v : α), findE k E i = some (j, v) → i ≤ j ∧ j - i < E.length ∧ E.eraseIdx (j - i) = mdel k E
  | [], _, _, _, h => by cases h
  | e :: E, i, j, v, h => by
    unfold findE at h
    unfold mdel
    by_cases hk : k = e.1
    · rw [if_pos hk] at h ⊢
      simp at h
      rw [h.1]; simp
    · rw [if_neg hk] at h ⊢
      obtain ⟨h1, h2, h3⟩ := findE_del E (i + 1) j v h
      refine ⟨by omega, by simp; omega, ?_⟩
      rw [show j - i = (j - (i + 1)) + 1 by omega, List.eraseIdx_cons_succ, h3]
theorem mdel_none (hf : findE k E 0 = none) : mdel k E = E := by
  have key : ∀ (E : List (Int × α × Nat)) (i : Nat), findE k E i = none → mdel k E = E := by
    intro E
    induction E with
    | nil => intro _ _; rfl
    | cons e E ih =>
      intro i h
      unfold findE at h
      unfold mdel
      by_cases hk : k = e.1
      · rw [if_pos hk] at h; cases h
      · rw [if_neg hk] at h ⊢; rw [ih _ h]
  exact key E 0 hf
theorem map_erase {β γ : Type} (f : β → γ) : ∀ (l : List β) (i : Nat), (l.eraseIdx i).map f = (l.map f).eraseIdx i
  | [], _ => rfl
  | _ :: _, 0 => rfl
  | x :: l, i + 1 => by simp [map_erase f l i]
theorem or_mapDel {ats : Array TypeId} (h : (mapR b ik encV E ck).holds w) (ho : o.op = .call { callee := .builtin .delete, args := #[x, y], argTypes := ats }) (hat : ats[0]? = some t) (ht : P.underlying t = some (.map kt et)) (hk : P.underlying kt = some (.int ik)) (hx : ev l x = some (.map (some b))) (hy : ev l y = some (.int ik k)) :
    OpR P l w o (.value (.tuple #[])) (w.putObj b (.map ((mdel k E).map (ent ik encV)).toArray ck)) := by
  intro ρ q
  have key : (Builtin.delete_ ats o.type #[.map (some b), .int ik k]).run P w = .ok (.tuple #[]) (w.putObj b (.map ((mdel k E).map (ent ik encV)).toArray ck)) := by
    unfold Builtin.delete_
    simp only [hat]
    simp only [Sem.run_bind, run_underlying ht, run_getObj_map h, run_checkKey_int hk, List.toList_toArray, run_findKey_int hk, Result.andThen_ok, Sem.run_pure, List.getElem?_toArray, List.getElem?_cons_zero, List.getElem?_cons_succ]
    cases hf : findE k E 0 with
    | none => simp [run_setObj_map _ h, mdel_none hf]
    | some p =>
      obtain ⟨h1, h2, h3⟩ := findE_del E 0 p.1 p.2 hf
      simp only [Nat.sub_zero] at h2 h3
      have e1 : ((E.map (ent ik encV)).toArray).eraseIdxIfInBounds p.1 = ((mdel k E).map (ent ik encV)).toArray := by
        rw [← h3, map_erase]
        simp [Array.eraseIdxIfInBounds, h2]
      simp [run_setObj_map _ h, e1]
  simp [execOp, ho, resolve, invoke, builtin, q _ _ hx, q _ _ hy, key]
end
end Go.Proofs.Ytblipnjjgbggiaa
