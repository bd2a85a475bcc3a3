/- Regions whose order is open and that write or call: every order is gone through, what only reads is taken first. Conditions: none. -/
import Derived.Test.YtblipnjjgbggiaaDraw
namespace Go.Proofs.Ytblipnjjgbggiaa
open Go Go.RowKit
set_option linter.unusedVariables false
set_option linter.unusedSectionVars false
set_option linter.unusedSimpArgs false
section
variable {P : Program} {n : Nat} {D : List Deferred} {Q : Exit → Act → World → Prop} {w w' w0 : World} {F : Nat → Prop} {rs : List Res} {l l' : List (Nat × Value)} {all : Array Oper} {o : Oper} {ops : List Oper} {d : Nat} {v : Value}
  {S : World → Prop} {fuel i : Nat} {li : Array Bool}

def NoP (Q : Exit → Act → World → Prop) : Exit → Act → World → Prop
  | .panic _, _, _ => False
  | e, a, w => Q e a w
theorem NoP.imp : ∀ (e : Exit) (a : Act) (w : World), NoP Q e a w → Q e a w := fun e a w h => by cases e <;> first | exact h | exact (h : False).elim
theorem NoP.pan {dst : Option Tmp} : ∀ c (a : Act) w, NoP Q (.panic c) (a.put dst v) w → NoP Q (.panic c) a w := fun _ _ _ h => h

def TrH (P : Program) (n : Nat) (D : List Deferred) (S : World → Prop) (all : Array Oper) (fuel : Nat) (li : Array Bool) (l : List (Nat × Value)) (w : World) (Q : Exit → Act → World → Prop) : Prop :=
  ∀ a, Fr a n D l → wpAnyH P .any all Q S fuel li a w
theorem TrH.sub (s : Sub l' l) (h : TrH P n D S all fuel li l' w Q) : TrH P n D S all fuel li l w Q := fun a ha => h a (ha.sub s)
/-- Number i comes up. -/
def TrW (P : Program) (n : Nat) (D : List Deferred) (S : World → Prop) (all : Array Oper) (i : Nat) (fuel : Nat) (li : Array Bool) (l : List (Nat × Value)) (w : World) (Q : Exit → Act → World → Prop) : Prop :=
  ∀ a, Fr a n D l → wpOp P all Q i (fun a' w' => S w' ∧ wpAnyH P .any all Q S fuel (li.setIfInBounds i true) a' w') a w
theorem th_take (i : Nat) (hi : all[i]? = some o) (hs : Region.noSelect all = true) (hf : Region.free .any all li i = true) (hr : (Region.ready .any all li).contains i = true) (hS : S w) (h : ∀ w, S w → OpV P l w o v) (hd : o.dst = some d) (hn : Nat.blt d n = true) (hg : wants all l o = some true)
    (k : TrH P n D S all fuel (li.setIfInBounds i true) ((d, v) :: l) w (NoP Q)) : TrH P n D S all (fuel + 1) li l w (NoP Q) := fun a ha =>
  wpAnyH_take hi hs hf hr NoP.pan (Or.inl ⟨wanted_of ha hg, fun w' hw' => h w' hw' _ ha.knows⟩) hS (by rw [hd]; exact k _ (ha.put hn v))
theorem th_pass (i : Nat) (hi : all[i]? = some o) (hs : Region.noSelect all = true) (hf : Region.free .any all li i = true) (hr : (Region.ready .any all li).contains i = true) (hS : S w) (hd : o.dst = some d) (hn : Nat.blt d n = true) (hg : wants all l o = some false)
    (k : TrH P n D S all fuel (li.setIfInBounds i true) ((d, undef) :: l) w (NoP Q)) : TrH P n D S all (fuel + 1) li l w (NoP Q) := fun a ha =>
  wpAnyH_take hi hs hf hr NoP.pan (Or.inr ⟨wanted_of ha hg, rfl⟩) hS (by rw [hd]; exact k _ (ha.put hn undef))
theorem th_one (i : Nat) (hr : Region.ready .any all li = [i]) (h : TrW P n D S all i fuel li l w Q) : TrH P n D S all (fuel + 1) li l w Q := fun a ha =>
  wpAnyH_all hr (by simp) (by intro j hj; simp at hj; subst hj; exact h a ha)
theorem th_two (i j : Nat) (hr : Region.ready .any all li = [i, j]) (h : TrW P n D S all i fuel li l w Q) (h' : TrW P n D S all j fuel li l w Q) : TrH P n D S all (fuel + 1) li l w Q := fun a ha =>
  wpAnyH_all hr (by simp) (by intro k hk; simp at hk; rcases hk with hk | hk <;> subst hk; exact h a ha; exact h' a ha)
theorem th_three (i j k : Nat) (hr : Region.ready .any all li = [i, j, k]) (h : TrW P n D S all i fuel li l w Q) (h' : TrW P n D S all j fuel li l w Q) (h'' : TrW P n D S all k fuel li l w Q) : TrH P n D S all (fuel + 1) li l w Q := fun a ha =>
  wpAnyH_all hr (by simp) (by intro m hm; simp at hm; rcases hm with hm | hm | hm <;> subst hm; exact h a ha; exact h' a ha; exact h'' a ha)
theorem tw_go {r : Next} (hi : all[i]? = some o) (hg : wants all l o = some true) (h : OpR P l w o r w') (k : ∀ a, Fr a n D l → o.upon P a (fun a' w' => S w' ∧ wpAnyH P .any all Q S fuel (li.setIfInBounds i true) a' w') Q (.ok r w')) : TrW P n D S all i fuel li l w Q := by
  intro a ha
  unfold wpOp
  simp only [hi]
  rw [if_pos (wanted_of ha hg)]
  refine Or.inl ?_
  unfold Oper.wp
  rw [h _ ha.knows]
  exact k a ha
theorem tw_op (h : OpR P l w o (.value v) w') (hi : all[i]? = some o) (hS : S w') (hd : o.dst = some d) (hn : Nat.blt d n = true) (hg : wants all l o = some true) (k : TrH P n D S all fuel (li.setIfInBounds i true) ((d, v) :: l) w' Q) : TrW P n D S all i fuel li l w Q :=
  tw_go hi hg h fun a ha => by rw [Oper.upon_value, hd]; exact ⟨hS, k _ (ha.put hn v)⟩
theorem tw_val (h : OpV P l w o v) (hi : all[i]? = some o) (hS : S w) (hd : o.dst = some d) (hn : Nat.blt d n = true) (hg : wants all l o = some true) (k : TrH P n D S all fuel (li.setIfInBounds i true) ((d, v) :: l) w Q) : TrW P n D S all i fuel li l w Q :=
  tw_op h.r hi hS hd hn hg k
theorem tw_op0 (h : OpR P l w o .skip w') (hi : all[i]? = some o) (hS : S w') (hd : o.dst = none) (hg : wants all l o = some true) (k : TrH P n D S all fuel (li.setIfInBounds i true) l w' Q) : TrW P n D S all i fuel li l w Q :=
  tw_go hi hg h fun a ha => by rw [Oper.upon_skip, hd]; exact ⟨hS, k _ ha⟩
theorem tw_call {R : Value → World → Prop} {f : FuncId} {fx : Operand} {xs : List Operand} {ats : Array TypeId} {args : List Value} (hc : Does P f args.toArray w R) (hi : all[i]? = some o) (ho : o.op = .call { callee := .value fx, args := xs.toArray, argTypes := ats }) (hfx : ev l fx = some (.func (.func f) #[] #[])) (ha : evs l xs = some args)
    (hcf : ∀ ys w, (callFunc f ys).run P w = .ok (.enter f ys) w) (hd : o.dst = some d) (hn : Nat.blt d n = true) (hg : wants all l o = some true) (k : ∀ v w', R v w' → S w' ∧ TrH P n D S all fuel (li.setIfInBounds i true) ((d, v) :: l) w' Q) : TrW P n D S all i fuel li l w Q :=
  tw_go hi hg (or_call ho hfx ha hcf) fun a hfr => by
    rw [Oper.upon_enter]
    refine hc.out.mono fun e w' q => ?_
    cases e with
    | returned v => rw [hd]; exact ⟨(k v w' q).1, (k v w' q).2 _ (hfr.put hn v)⟩
    | panicked c => exact q.elim
    | outgrown => exact q.elim
theorem tw_alloc {t : TypeId} {z : Value} {cs : List Value} (H : SH w0 F rs w) (hi : all[i]? = some o) (ho : o.op = .alloc t) (hz : (zeroValue t).run P w = .ok z w) (hc : z.cells = cs.toArray) (hd : o.dst = some d) (hn : Nat.blt d n = true) (hg : wants all l o = some true)
    (k : ∀ b w1, w0.heap.size ≤ b → SH w0 F (blk b t cs :: rs) w1 → S w1 ∧ TrH P n D S all fuel (li.setIfInBounds i true) ((d, .pointer (some ⟨b, 0, none⟩)) :: l) w1 Q) : TrW P n D S all i fuel li l w Q :=
  have q := k _ _ H.size (H.add (upd_alloc w t cs))
  tw_op (or_alloc ho hz hc) hi q.1 hd hn hg q.2
theorem tw_store {t e : TypeId} {b j : Nat} {cs : List Value} {x y : Operand} {a : Addr} (h : (blk b e cs).holds w) (hi : all[i]? = some o) (ho : o.op = .store t x y) (hz : (sizeOf t).run P w = .ok 1 w) (hx : ev l x = some (.pointer (some a))) (ha : a = ⟨b, j, none⟩) (hy : ev l y = some v) (hv : v.oneCell' = true) (hj : Nat.blt j cs.length = true) (hd : o.dst = none) (hg : wants all l o = some true)
    (k : ∀ w1, Upd w (blk b e cs) (blk b e (cs.set j v)) w1 → S w1 ∧ TrH P n D S all fuel (li.setIfInBounds i true) l w1 Q) : TrW P n D S all i fuel li l w Q :=
  have q := k _ (upd_set h j v)
  tw_op0 (or_store h ho hz hx ha hy hv hj) hi q.1 hd hg q.2
theorem tw_storeW {t e : TypeId} {b m : Nat} {cs vs : List Value} {x y : Operand} {a : Addr} (h : (blk b e cs).holds w) (hi : all[i]? = some o) (ho : o.op = .store t x y) (hz : (sizeOf t).run P w = .ok m w) (hm : m = vs.length) (hx : ev l x = some (.pointer (some a))) (ha : a = ⟨b, 0, none⟩) (hy : ev l y = some (.agg vs.toArray))
    (hv : vs.all Value.oneCell' = true) (hj : vs.length = cs.length) (hd : o.dst = none) (hg : wants all l o = some true)
    (k : ∀ w1, Upd w (blk b e cs) (blk b e vs) w1 → S w1 ∧ TrH P n D S all fuel (li.setIfInBounds i true) l w1 Q) : TrW P n D S all i fuel li l w Q := by
  subst ha; subst hm
  obtain ⟨w1, hr, U⟩ := upd_over (P := P) vs cs 0 w h (by omega) (fun v hv' => List.all_eq_true.mp hv v hv')
  have hr0 := (hr 0).resolve_right (by omega)
  rw [over_all hj] at U
  have q := k w1 U
  refine tw_op0 (w' := w1) ?_ hi q.1 hd hg q.2
  intro ρ k
  simp only [Nat.sub_zero] at hr0
  simp [execOp, ho, k _ _ hx, k _ _ hy, Instr.storeAt, Instr.sureAddr, storeVar, hz, Value.cells, hr0]
theorem th_split {t : Nat} {p : Prop} [Decidable p] (e : look l t = some (.bool (decide p))) (ht : p → TrH P n D S all fuel li ((t, .bool true) :: l) w Q) (hf : ¬ p → TrH P n D S all fuel li ((t, .bool false) :: l) w Q) : TrH P n D S all fuel li l w Q := by
  by_cases hp : p
  · exact TrH.sub (Sub.cons (by rw [e, decide_eq_true hp]) (Sub.refl l)) (ht hp)
  · exact TrH.sub (Sub.cons (by rw [e, decide_eq_false hp]) (Sub.refl l)) (hf hp)
theorem th_splitb {t : Nat} {b : Bool} (e : look l t = some (.bool b)) (ht : b = true → TrH P n D S all fuel li ((t, .bool true) :: l) w Q) (hf : b = false → TrH P n D S all fuel li ((t, .bool false) :: l) w Q) : TrH P n D S all fuel li l w Q := by
  cases b with
  | true => exact TrH.sub (Sub.cons e (Sub.refl l)) (ht rfl)
  | false => exact TrH.sub (Sub.cons e (Sub.refl l)) (hf rfl)
theorem th_done (hr : Region.ready .any all li = []) (h : TrK n D (Q .normal) l w) : TrH P n D S all fuel li l w (NoP Q) := fun a ha => wpAnyH_done hr (show NoP Q .normal a w from h a ha) fuel
theorem tr_held {id m : Nat} (S : World → Prop) (hm : P.follows .mixedOrders = true) (hl : ops.toArray.size = m) (H : SH w0 F rs w) (h : ∀ w', SH w0 F rs w' → TrH P n D S ops.toArray m (Array.replicate m false) l w' (NoP Q)) : TrC P n D (.region id ops.toArray true) l w Q := fun a ha =>
  wp_mono (wp_region_held (S := S) hm (by rw [hl]; exact h _ H.drew a ha)) NoP.imp
/-- The same; the ways meet again behind it. -/
theorem tr_held_cut {id m : Nat} (S : World → Prop) (ts : List Nat) (new : List (Nat × Value)) (I : World → Prop) (hm : P.follows .mixedOrders = true) (hl : ops.toArray.size = m) (H : SH w0 F rs w)
    (h : ∀ w', SH w0 F rs w' → ∀ K : Act → World → Prop, (∀ l' w, Sub (new ++ sel ts l) l' → I w → TrK n D K l' w) → TrH P n D S ops.toArray m (Array.replicate m false) l w' (NoP (Exit.then K Q)))
    (k : ∀ w, I w → TrK n D (Q .normal) (new ++ sel ts l) w) : TrC P n D (.region id ops.toArray true) l w Q := by
  intro a ha
  refine wp_mono (wp_region_held (S := S) hm (by rw [hl]; exact h _ H.drew (fun a w => Q .normal a w) (fun l' w hs hi a' ha' => k w hi a' (ha'.sub hs)) a ha)) ?_
  intro e a w q
  have q := NoP.imp _ _ _ q
  cases e <;> exact q
end
end Go.Proofs.Ytblipnjjgbggiaa
