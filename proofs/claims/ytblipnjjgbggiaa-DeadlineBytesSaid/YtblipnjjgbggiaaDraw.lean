/- Regions whose order is open. Conditions: none. -/
import Derived.Test.YtblipnjjgbggiaaEls
namespace Go.Proofs.Ytblipnjjgbggiaa
open Go Go.RowKit
set_option linter.unusedVariables false
set_option linter.unusedSectionVars false
set_option linter.unusedSimpArgs false
section
variable {P : Program} {n : Nat} {D : List Deferred} {Q : Exit → Act → World → Prop} {w w0 : World} {F : Nat → Prop} {rs : List Res} {l l' : List (Nat × Value)} {all : Array Oper} {o : Oper} {rest ops : List Oper} {d : Nat} {v : Value}
  {C : World → Prop} {R : Act → Prop}

/-- In the order of the text, every operation quiet in the class C. -/
def TrQ (P : Program) (n : Nat) (D : List Deferred) (all : Array Oper) (C : World → Prop) (ops : List Oper) (l : List (Nat × Value)) (R : Act → Prop) : Prop := ∀ a, Fr a n D l → wpQuiet P all C R ops a
theorem TrQ.sub (s : Sub l' l) (h : TrQ P n D all C ops l' R) : TrQ P n D all C ops l R := fun a ha => h a (ha.sub s)
theorem tq_val (h : ∀ w, C w → OpV P l w o v) (hd : o.dst = some d) (hn : Nat.blt d n = true) (hg : wants all l o = some true) (k : TrQ P n D all C rest ((d, v) :: l) R) : TrQ P n D all C (o :: rest) l R := by
  intro a ha
  unfold wpQuiet
  rw [if_pos (wanted_of ha hg)]
  refine ⟨v, fun w hw => ?_, by rw [hd]; exact k _ (ha.put hn v)⟩
  unfold Oper.quietAt
  rw [h w hw _ ha.knows]
  exact ⟨rfl, rfl⟩
theorem tq_pass (hd : o.dst = some d) (hn : Nat.blt d n = true) (hg : wants all l o = some false) (k : TrQ P n D all C rest ((d, undef) :: l) R) : TrQ P n D all C (o :: rest) l R := by
  intro a ha
  unfold wpQuiet
  rw [if_neg (by rw [wanted_of ha hg]; decide), hd]
  exact k _ (ha.put hn undef)
theorem tq_call {f : FuncId} {fx : Operand} {xs : List Operand} {ats : Array TypeId} {args : List Value} (hc : ∀ w, C w → Does P f args.toArray w (fun v' w' => v' = v ∧ C w')) (ho : o.op = .call { callee := .value fx, args := xs.toArray, argTypes := ats }) (hfx : ev l fx = some (.func (.func f) #[] #[])) (ha : evs l xs = some args)
    (hcf : ∀ ys w, (callFunc f ys).run P w = .ok (.enter f ys) w) (hd : o.dst = some d) (hn : Nat.blt d n = true) (hg : wants all l o = some true) (k : TrQ P n D all C rest ((d, v) :: l) R) : TrQ P n D all C (o :: rest) l R := by
  intro a ha'
  unfold wpQuiet
  rw [if_pos (wanted_of ha' hg)]
  refine ⟨v, fun w hw => ?_, by rw [hd]; exact k _ (ha'.put hn v)⟩
  unfold Oper.quietAt
  rw [or_call ho hfx ha hcf _ ha'.knows]
  refine ⟨rfl, (hc w hw).out.mono fun e w' q => ?_⟩
  cases e with
  | returned u => exact ⟨by rw [q.1], q.2⟩
  | panicked c => exact q.elim
  | outgrown => exact q.elim
theorem tq_split {t : Nat} {p : Prop} [Decidable p] (e : look l t = some (.bool (decide p))) (ht : p → TrQ P n D all C ops ((t, .bool true) :: l) R) (hf : ¬ p → TrQ P n D all C ops ((t, .bool false) :: l) R) : TrQ P n D all C ops l R := by
  by_cases hp : p
  · exact TrQ.sub (Sub.cons (by rw [e, decide_eq_true hp]) (Sub.refl l)) (ht hp)
  · exact TrQ.sub (Sub.cons (by rw [e, decide_eq_false hp]) (Sub.refl l)) (hf hp)
theorem tq_splitb {t : Nat} {b : Bool} (e : look l t = some (.bool b)) (ht : b = true → TrQ P n D all C ops ((t, .bool true) :: l) R) (hf : b = false → TrQ P n D all C ops ((t, .bool false) :: l) R) : TrQ P n D all C ops l R := by
  cases b with
  | true => exact TrQ.sub (Sub.cons e (Sub.refl l)) (ht rfl)
  | false => exact TrQ.sub (Sub.cons e (Sub.refl l)) (hf rfl)
theorem tq_nil (h : ∀ w, C w → TrK n D (Q .normal) l w) : TrQ P n D all C [] l (fun a => ∀ w, C w → Q .normal a w) := fun a ha w hw => h w hw a ha
theorem tr_quiet {id : Nat} (hm : P.follows .mixedOrders = true) (hB : Region.lexB .any ops.toArray = true) (H : SH w0 F rs w)
    (h : TrQ P n D ops.toArray (fun w' => SH w0 F rs w') ops l (fun a => ∀ w', SH w0 F rs w' → Q .normal a w')) : TrC P n D (.region id ops.toArray true) l w Q := fun a ha =>
  wp_region_quiet (C := fun w' => SH w0 F rs w') hm hB H.drew (h a ha)
/-- The same; the ways meet again behind it. -/
theorem tr_quiet_cut {id : Nat} (ts : List Nat) (new : List (Nat × Value)) (hm : P.follows .mixedOrders = true) (hB : Region.lexB .any ops.toArray = true) (H : SH w0 F rs w)
    (h : ∀ R : Act → Prop, (∀ l', Sub (new ++ sel ts l) l' → ∀ a, Fr a n D l' → R a) → TrQ P n D ops.toArray (fun w' => SH w0 F rs w') ops l R)
    (k : ∀ w', SH w0 F rs w' → TrK n D (Q .normal) (new ++ sel ts l) w') : TrC P n D (.region id ops.toArray true) l w Q := fun a ha =>
  wp_region_quiet (C := fun w' => SH w0 F rs w') hm hB H.drew (h (fun a => ∀ w', SH w0 F rs w' → Q .normal a w') (fun l' hs a ha w' hw' => k w' hw' a (ha.sub hs)) a ha)
theorem tq_nil_cut {R : Act → Prop} (h : ∀ a, Fr a n D l → R a) : TrQ P n D all C [] l R := fun a ha => h a ha

/-! ### all but the last ones only read -/
def TrS (P : Program) (n : Nat) (D : List Deferred) (all : Array Oper) (w : World) (ops : List Oper) (l : List (Nat × Value)) (R : Act → Prop) : Prop := ∀ a, Fr a n D l → wpStill P all w R ops a
theorem TrS.sub {R : Act → Prop} (s : Sub l' l) (h : TrS P n D all w ops l' R) : TrS P n D all w ops l R := fun a ha => h a (ha.sub s)
theorem ts_val {R : Act → Prop} (h : OpV P l w o v) (hd : o.dst = some d) (hn : Nat.blt d n = true) (hg : wants all l o = some true) (k : TrS P n D all w rest ((d, v) :: l) R) : TrS P n D all w (o :: rest) l R := by
  intro a ha
  unfold wpStill
  rw [if_pos (wanted_of ha hg)]
  unfold Oper.still
  rw [h _ ha.knows, Oper.stillUpon_value, hd]
  exact k _ (ha.put hn v)
theorem ts_pass {R : Act → Prop} (hd : o.dst = some d) (hn : Nat.blt d n = true) (hg : wants all l o = some false) (k : TrS P n D all w rest ((d, undef) :: l) R) : TrS P n D all w (o :: rest) l R := by
  intro a ha
  unfold wpStill
  rw [if_neg (by rw [wanted_of ha hg]; decide), hd]
  exact k _ (ha.put hn undef)
theorem ts_nil {R : Act → Prop} (h : ∀ a, Fr a n D l → R a) : TrS P n D all w [] l R := fun a ha => h a ha
theorem tr_tail {id : Nat} (m : Nat) (hm : P.follows .mixedOrders = true) (hB : Region.lexTailB .any ops.toArray m = true) (H : SH w0 F rs w)
    (h : ∀ w', SH w0 F rs w' → ∀ R : Act → Prop, (∀ l', TrL P n D ops.toArray (ops.drop m) l' w' Q → ∀ a, Fr a n D l' → R a) → TrS P n D ops.toArray w' (ops.take m) l R) : TrC P n D (.region id ops.toArray true) l w Q := fun a ha =>
  wp_region_still_tail m hm hB (h _ H.drew _ (fun l' hl a ha => hl a ha) a ha)
end
end Go.Proofs.Ytblipnjjgbggiaa
