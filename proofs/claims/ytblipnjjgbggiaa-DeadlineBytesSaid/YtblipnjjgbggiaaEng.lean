/- What a call does, told by frames that are lists of known slots and by a heap that is a list of owned resources. Conditions: none. -/
import Derived.WalkKit
import Derived.Deep.LoopGhost
import Derived.Deep.Quiet
import Derived.OrdersHeld
import Derived.StillTail
import Derived.Scope
namespace Go.Proofs.Ytblipnjjgbggiaa
open Go Go.RowKit
set_option linter.unusedVariables false
set_option linter.unusedSectionVars false
set_option linter.unusedSimpArgs false

theorem eqT {p : Prop} [Decidable p] (h : p) : true = decide p := (decide_eq_true h).symm
theorem eqF {p : Prop} [Decidable p] (h : ¬ p) : false = decide p := (decide_eq_false h).symm
theorem eqI {p q : Prop} [Decidable p] [Decidable q] (h : p ↔ q) : decide p = decide q := decide_eq_decide.mpr h
/-! ### Frames -/
def look : List (Nat × Value) → Nat → Option Value
  | [], _ => none
  | (k, v) :: l, t => match Nat.beq k t with
    | true => some v
    | false => look l t

def ev (l : List (Nat × Value)) : Operand → Option Value
  | .tmp t => look l t
  | .const v => some v
  | .global g => some (.pointer (some ⟨g, 0, none⟩))
  | .func f => some (.func (.func f) #[] #[])

structure Fr (a : Act) (n : Nat) (D : List Deferred) (l : List (Nat × Value)) : Prop where
  size : a.tmps.size = n
  dfs : a.defers = D
  has : ∀ t v, look l t = some v → a.tmps[t]? = some v

/-- What one assignment of values to operands tells. -/
def Knows (l : List (Nat × Value)) (ρ : Operand → Value) : Prop := ∀ x u, ev l x = some u → ρ x = u

theorem Fr.knows {a : Act} {n : Nat} {D : List Deferred} {l : List (Nat × Value)} (h : Fr a n D l) : Knows l a.eval := by
  intro x u e
  cases x with
  | tmp t =>
    have := h.has t u e
    simp [Act.eval, Array.getD_eq_getD_getElem?, this]
  | const v => simpa [ev, Act.eval] using e
  | global g => simpa [ev, Act.eval] using e
  | func f => simpa [ev, Act.eval] using e

theorem look_ne {k t : Nat} {v : Value} {l : List (Nat × Value)} (h : k ≠ t) : look ((k, v) :: l) t = look l t := by
  have : Nat.beq k t = false := by cases hb : Nat.beq k t with
    | false => rfl
    | true => exact absurd (Nat.eq_of_beq_eq_true hb) h
  simp [look, this]
theorem look_eq {k : Nat} {v : Value} {l : List (Nat × Value)} : look ((k, v) :: l) k = some v := by
  have : Nat.beq k k = true := Nat.beq_refl k
  simp [look, this]

theorem Fr.put {a : Act} {n : Nat} {D : List Deferred} {l : List (Nat × Value)} (h : Fr a n D l) {d : Nat} (hd : Nat.blt d n = true) (v : Value) : Fr (a.put (some d) v) n D ((d, v) :: l) := by
  have hlt : d < n := Nat.blt_eq.mp hd
  refine ⟨by simp [Act.put, h.size], by simp [Act.put, h.dfs], ?_⟩
  intro t u e
  by_cases ht : d = t
  · subst ht
    rw [look_eq] at e
    injection e with e
    subst e
    simp [Act.put, Array.getElem?_setIfInBounds, h.size, hlt]
  · rw [look_ne ht] at e
    have := h.has t u e
    simp [Act.put, Array.getElem?_setIfInBounds, ht, this]

/-- Slots of one list, by the other. -/
def Sub (l' l : List (Nat × Value)) : Prop := ∀ t v, look l' t = some v → look l t = some v
theorem Sub.refl (l : List (Nat × Value)) : Sub l l := fun _ _ h => h
theorem Sub.trans {a b c : List (Nat × Value)} (h : Sub a b) (k : Sub b c) : Sub a c := fun t v e => k t v (h t v e)
theorem Sub.nil {l : List (Nat × Value)} : Sub [] l := fun _ _ h => by cases h
theorem Sub.cons {l' l : List (Nat × Value)} {t : Nat} {v : Value} (e : look l t = some v) (h : Sub l' l) : Sub ((t, v) :: l') l := by
  intro s u hs
  by_cases ht : t = s
  · subst ht; rw [look_eq] at hs; injection hs with hs; subst hs; exact e
  · rw [look_ne ht] at hs; exact h s u hs
theorem Sub.consE {l' l : List (Nat × Value)} {t : Nat} {v u : Value} (e : look l t = some u) (hv : u = v) (h : Sub l' l) : Sub ((t, v) :: l') l := by
  subst hv; exact Sub.cons e h
theorem Fr.sub {a : Act} {n : Nat} {D : List Deferred} {l l' : List (Nat × Value)} (h : Fr a n D l) (s : Sub l' l) : Fr a n D l' :=
  ⟨h.size, h.dfs, fun t v e => h.has t v (s t v e)⟩

def number : Nat → List Value → List (Nat × Value)
  | _, [] => []
  | i, v :: vs => (i, v) :: number (i + 1) vs
theorem look_number : ∀ (vs : List Value) (i t : Nat) (v : Value), look (number i vs) t = some v → i ≤ t ∧ vs[t - i]? = some v
  | [], _, _, _, h => by cases h
  | u :: vs, i, t, v, h => by
    by_cases ht : i = t
    · subst ht; rw [number, look_eq] at h; simp at h ⊢; exact h
    · rw [number, look_ne ht] at h
      have ⟨h1, h2⟩ := look_number vs (i + 1) t v h
      refine ⟨by omega, ?_⟩
      rw [show t - i = (t - (i + 1)) + 1 by omega]
      simpa using h2

theorem Fr.enter (args : List Value) (n : Nat) (h : args.length ≤ n) : Fr { tmps := args.toArray ++ Array.replicate (n - args.toArray.size) undef, defers := [] } n [] (number 0 args) := by
  refine ⟨by simp; omega, rfl, ?_⟩
  intro t v e
  have ⟨_, h2⟩ := look_number args 0 t v e
  simp at h2
  have hlt : t < args.length := by
    rcases Nat.lt_or_ge t args.length with h' | h'
    · exact h'
    · rw [List.getElem?_eq_none h'] at h2; cases h2
  rw [Array.getElem?_append_left (by simpa using hlt)]
  simpa using h2

/-! ### Triples -/
section
variable {P : Program} {n : Nat} {D : List Deferred} {Q : Exit → Act → World → Prop} {w : World} {l l' : List (Nat × Value)}

def TrL (P : Program) (n : Nat) (D : List Deferred) (all : Array Oper) (ops : List Oper) (l : List (Nat × Value)) (w : World) (Q : Exit → Act → World → Prop) : Prop :=
  ∀ a, Fr a n D l → wpList P all Q ops a w
def TrC (P : Program) (n : Nat) (D : List Deferred) (c : Code) (l : List (Nat × Value)) (w : World) (Q : Exit → Act → World → Prop) : Prop :=
  ∀ a, Fr a n D l → c.wp P Q a w
def TrK (n : Nat) (D : List Deferred) (K : Act → World → Prop) (l : List (Nat × Value)) (w : World) : Prop := ∀ a, Fr a n D l → K a w

theorem TrL.sub {all : Array Oper} {ops : List Oper} (s : Sub l' l) (h : TrL P n D all ops l' w Q) : TrL P n D all ops l w Q := fun a ha => h a (ha.sub s)
theorem TrC.sub {c : Code} (s : Sub l' l) (h : TrC P n D c l' w Q) : TrC P n D c l w Q := fun a ha => h a (ha.sub s)
theorem TrK.sub {K : Act → World → Prop} (s : Sub l' l) (h : TrK n D K l' w) : TrK n D K l w := fun a ha => h a (ha.sub s)

theorem tr_seq {x y : Code} (h : ∀ K : Act → World → Prop, (∀ l w, TrC P n D y l w Q → TrK n D K l w) → TrC P n D x l w (Exit.then K Q)) : TrC P n D (.seq x y) l w Q :=
  fun a ha => wp_seq (h (y.wp P Q) (fun _ _ hy a ha => hy a ha) a ha)
/-- The ways through x meet again: whatever x ends in, I holds. -/
theorem tr_seq_cut {x y : Code} (I : List (Nat × Value) → World → Prop)
    (hx : ∀ K : Act → World → Prop, (∀ l w, I l w → TrK n D K l w) → TrC P n D x l w (Exit.then K Q))
    (hy : ∀ l w, I l w → TrC P n D y l w Q) : TrC P n D (.seq x y) l w Q :=
  fun a ha => wp_seq (hx (y.wp P Q) (fun l w hi a ha => hy l w hi a ha) a ha)
theorem tr_block {id : Nat} {c : Code} (h : TrC P n D c l w (Exit.inBlock id Q)) : TrC P n D (.block id c) l w Q := fun a ha => wp_block (h a ha)
theorem tr_skip (h : TrK n D (Q .normal) l w) : TrC P n D .skip l w Q := fun a ha => wp_skip (h a ha)
theorem tr_label {i : Nat} (h : TrK n D (Q .normal) l w) : TrC P n D (.label i) l w Q := fun a ha => wp_label (h a ha)
theorem tr_exit {id : Nat} (h : TrK n D (Q (.exit id)) l w) : TrC P n D (.exit id) l w Q := fun a ha => wp_exit (h a ha)
theorem tr_goto {id : Nat} (h : TrK n D (Q (.goto id)) l w) : TrC P n D (.goto id) l w Q := fun a ha => wp_goto (h a ha)
theorem tr_ret (h : TrK n D (Q .ret) l w) : TrC P n D .ret l w Q := fun a ha => wp_ret (h a ha)
theorem tr_cond {c : Operand} {x y : Code} {p : Prop} [Decidable p] (e : ev l c = some (.bool (decide p))) (ht : p → TrC P n D x l w Q) (hf : ¬ p → TrC P n D y l w Q) : TrC P n D (.cond c x y) l w Q :=
  fun a ha => wp_cond_split (ha.knows _ _ e) (fun h => ht (of_decide_eq_true h) a ha) (fun h => hf (of_decide_eq_false h) a ha)
theorem tr_condb {c : Operand} {x y : Code} {b : Bool} (e : ev l c = some (.bool b)) (ht : b = true → TrC P n D x l w Q) (hf : b = false → TrC P n D y l w Q) : TrC P n D (.cond c x y) l w Q :=
  fun a ha => wp_cond_split (ha.knows _ _ e) (fun h => ht h a ha) (fun h => hf h a ha)
theorem tr_cond_t {c : Operand} {x y : Code} {b : Bool} (e : ev l c = some (.bool b)) (hb : b = true) (ht : TrC P n D x l w Q) : TrC P n D (.cond c x y) l w Q :=
  fun a ha => wp_cond_true ((ha.knows _ _ e).trans (by rw [hb])) (ht a ha)
theorem tr_cond_f {c : Operand} {x y : Code} {b : Bool} (e : ev l c = some (.bool b)) (hb : b = false) (hf : TrC P n D y l w Q) : TrC P n D (.cond c x y) l w Q :=
  fun a ha => wp_cond_false ((ha.knows _ _ e).trans (by rw [hb])) (hf a ha)
theorem tr_region {id : Nat} {ops : List Oper} (h : TrL P n D ops.toArray ops l w Q) : TrC P n D (.region id ops.toArray false) l w Q := fun a ha => wp_region_lit (h a ha)
theorem tr_nil {all : Array Oper} (h : TrK n D (Q .normal) l w) : TrL P n D all [] l w Q := fun a ha => h a ha
theorem tr_loop {c : Code} {X : Type} (L : X → List (Nat × Value)) (I : X → World → Prop) (μ : X → Nat) (x : X) (hl : Sub (L x) l) (hI : I x w)
    (round : ∀ (x : X) (w : World), I x w → ∀ K : Act → World → Prop, (∀ (x' : X) (l' : List (Nat × Value)) (w' : World), I x' w' → μ x' < μ x → Sub (L x') l' → TrK n D K l' w') → TrC P n D c (L x) w (Exit.then K Q)) :
    TrC P n D (.loop c) l w Q := by
  intro a ha
  refine wp_loop_ghost (fun k a w => ∃ x, k = μ x ∧ I x w ∧ Fr a n D (L x)) (μ x) ⟨x, rfl, hI, ha.sub hl⟩ ?_
  rintro k a w ⟨x, rfl, hx, hf⟩
  exact round x w hx _ (fun x' l' w' hx' hm hs a' ha' => ⟨μ x', hm, x', rfl, hx', ha'.sub hs⟩) a hf
theorem TrC.mono {c : Code} {Q' : Exit → Act → World → Prop} (h : TrC P n D c l w Q') (hq : ∀ e a w, Q' e a w → Q e a w) : TrC P n D c l w Q := fun a ha => wp_mono (h a ha) hq

/-! ### One operation -/
/-- The operation hands back v and leaves the world. -/
def OpV (P : Program) (l : List (Nat × Value)) (w : World) (o : Oper) (v : Value) : Prop := ∀ ρ : Operand → Value, Knows l ρ → (execOp ρ o).run P w = .ok (.value v) w
/-- The operation comes to r, in the world w'. -/
def OpR (P : Program) (l : List (Nat × Value)) (w : World) (o : Oper) (r : Next) (w' : World) : Prop := ∀ ρ : Operand → Value, Knows l ρ → (execOp ρ o).run P w = .ok r w'
theorem OpV.r {o : Oper} {v : Value} (h : OpV P l w o v) : OpR P l w o (.value v) w := h

theorem wpList_go {all : Array Oper} {o : Oper} {rest : List Oper} {a : Act} {w w' : World} {r : Next} (hg : Region.wanted o (yielded all a.tmps) = true)
    (hr : (execOp a.eval o).run P w = .ok r w') (h : o.upon P a (wpList P all Q rest) Q (.ok r w')) : wpList P all Q (o :: rest) a w := by
  unfold wpList
  rw [if_pos hg]
  refine Or.inl ?_
  unfold Oper.wp
  rw [hr]
  exact h

/-- Is the operation wanted? none: not known. -/
def wants (all : Array Oper) (l : List (Nat × Value)) (o : Oper) : Option Bool :=
  match o.guard with
  | none => some true
  | some (j, b) => match ((all[j]?).bind (·.dst)).bind (look l) with
    | some (.bool c) => some (c == b)
    | some _ => some false
    | none => none
theorem wanted_of {all : Array Oper} {o : Oper} {a : Act} {b : Bool} (ha : Fr a n D l) (h : wants all l o = some b) : Region.wanted o (yielded all a.tmps) = b := by
  unfold wants at h
  unfold Region.wanted
  cases hg : o.guard with
  | none => rw [hg] at h; simpa using h
  | some jb =>
    obtain ⟨j, want⟩ := jb
    rw [hg] at h
    simp only [yielded] at h ⊢
    cases hd : (all[j]?).bind (·.dst) with
    | none => rw [hd] at h; cases h
    | some d =>
      rw [hd] at h
      simp only [Option.bind_some] at h ⊢
      cases hl : look l d with
      | none => rw [hl] at h; cases h
      | some v =>
        rw [hl] at h
        rw [ha.has d v hl]
        cases v <;> simp_all

section
variable {all : Array Oper} {o : Oper} {rest : List Oper} {v : Value} {d : Nat} {w' : World}
theorem tr_val (h : OpV P l w o v) (hd : o.dst = some d) (hn : Nat.blt d n = true) (hg : wants all l o = some true) (k : TrL P n D all rest ((d, v) :: l) w Q) : TrL P n D all (o :: rest) l w Q := by
  intro a ha
  refine wpList_go (wanted_of ha hg) (h _ ha.knows) ?_
  rw [Oper.upon_value, hd]
  exact k _ (ha.put hn v)
theorem tr_op (h : OpR P l w o (.value v) w') (hd : o.dst = some d) (hn : Nat.blt d n = true) (hg : wants all l o = some true) (k : TrL P n D all rest ((d, v) :: l) w' Q) : TrL P n D all (o :: rest) l w Q := by
  intro a ha
  refine wpList_go (wanted_of ha hg) (h _ ha.knows) ?_
  rw [Oper.upon_value, hd]
  exact k _ (ha.put hn v)
theorem tr_op0 (h : OpR P l w o .skip w') (hd : o.dst = none) (hg : wants all l o = some true) (k : TrL P n D all rest l w' Q) : TrL P n D all (o :: rest) l w Q := by
  intro a ha
  refine wpList_go (wanted_of ha hg) (h _ ha.knows) ?_
  rw [Oper.upon_skip, hd]
  exact k _ ha
theorem tr_opv0 (h : OpR P l w o (.value v) w') (hd : o.dst = none) (hg : wants all l o = some true) (k : TrL P n D all rest l w' Q) : TrL P n D all (o :: rest) l w Q := by
  intro a ha
  refine wpList_go (wanted_of ha hg) (h _ ha.knows) ?_
  rw [Oper.upon_value, hd]
  exact k _ ha
/-- A guarded operation that is passed over. -/
theorem tr_pass (hd : o.dst = some d) (hn : Nat.blt d n = true) (hg : wants all l o = some false) (k : TrL P n D all rest ((d, undef) :: l) w Q) : TrL P n D all (o :: rest) l w Q := by
  intro a ha
  unfold wpList
  rw [if_neg (by rw [wanted_of ha hg]; decide), hd]
  exact k _ (ha.put hn undef)
theorem tr_pass0 (hd : o.dst = none) (hg : wants all l o = some false) (k : TrL P n D all rest l w Q) : TrL P n D all (o :: rest) l w Q := by
  intro a ha
  unfold wpList
  rw [if_neg (by rw [wanted_of ha hg]; decide), hd]
  exact k _ ha

/-- The call returns, and R holds of what it returns and of the world then. -/
def Ret (R : Value → World → Prop) : Ending → World → Prop
  | .returned v, w => R v w
  | _, _ => False
theorem Ret.mono {f : FuncId} {args : Array Value} {R R' : Value → World → Prop} (h : Calls P f args w (Ret R)) (hr : ∀ v w', R v w' → R' v w') : Calls P f args w (Ret R') :=
  h.mono fun e w' q => by cases e <;> first | exact hr _ _ q | exact q.elim

theorem tr_enter {f : FuncId} {args : Array Value} {R : Value → World → Prop} (h : OpR P l w o (.enter f args) w) (hc : Calls P f args w (Ret R)) (hd : o.dst = some d) (hn : Nat.blt d n = true) (hg : wants all l o = some true)
    (k : ∀ v w', R v w' → TrL P n D all rest ((d, v) :: l) w' Q) : TrL P n D all (o :: rest) l w Q := by
  intro a ha
  refine wpList_go (wanted_of ha hg) (h _ ha.knows) ?_
  rw [Oper.upon_enter]
  refine hc.mono fun e w' q => ?_
  cases e with
  | returned v => rw [hd]; exact k v w' q _ (ha.put hn v)
  | panicked c => exact q.elim
  | outgrown => exact q.elim
theorem tr_enter0 {f : FuncId} {args : Array Value} {R : Value → World → Prop} (h : OpR P l w o (.enter f args) w) (hc : Calls P f args w (Ret R)) (hd : o.dst = none) (hg : wants all l o = some true)
    (k : ∀ v w', R v w' → TrL P n D all rest l w' Q) : TrL P n D all (o :: rest) l w Q := by
  intro a ha
  refine wpList_go (wanted_of ha hg) (h _ ha.knows) ?_
  rw [Oper.upon_enter]
  refine hc.mono fun e w' q => ?_
  cases e with
  | returned v => rw [hd]; exact k v w' q _ ha
  | panicked c => exact q.elim
  | outgrown => exact q.elim
end

/-! ### A function -/
theorem calls_enter {f : FuncId} {fn : Func} {c : Code} {args : List Value} {R : Value → World → Prop} (hf : P.funcs[f]? = some fn) (hb : fn.body = some c) (hn : fn.ntmps = n) (hl : Nat.ble args.length n = true)
    (h : TrC P n [] c (number 0 args) w (bodyPost P fn (Ret R))) : Calls P f args.toArray w (Ret R) := by
  refine calls_of_wp hf hb ?_
  rw [hn]
  exact h _ (Fr.enter args n (Nat.ble_eq.mp hl))

/-- What a result variable holds. -/
def Res1 (P : Program) (l : List (Nat × Value)) (w : World) : ResultVar → Value → Prop
  | .tmp t, v => look l t = some v
  | .cell a t, v => ∃ p, look l a = some (.pointer (some p)) ∧ (loadVar t p).run P w = .ok v w
theorem Res1.tmp_ {t : Tmp} {v : Value} {a : Act} (ha : Fr a n D l) (h : Res1 P l w (.tmp t) v) : a.tmps[t]? = some v := ha.has t v h
theorem Res1.cell_ {x : Tmp} {t : TypeId} {v : Value} {a : Act} (ha : Fr a n D l) (h : Res1 P l w (.cell x t) v) : ∃ p, a.tmps[x]? = some (.pointer (some p)) ∧ (loadVar t p).run P w = .ok v w := by
  obtain ⟨p, h1, h2⟩ := h
  exact ⟨p, ha.has x _ h1, h2⟩
theorem post_ret0 {fn : Func} {R : Value → World → Prop} {e : Exit} (he : e = .normal ∨ e = .ret) (hr : fn.results = #[]) (h : R (.tuple #[]) w) : TrK n [] (bodyPost P fn (Ret R) e) l w := by
  intro a ha
  rcases he with rfl | rfl <;> exact ⟨ha.dfs, .tuple #[], by simp [results, hr], h⟩
theorem post_ret1 {fn : Func} {R : Value → World → Prop} {e : Exit} {r : ResultVar} {v : Value} (he : e = .normal ∨ e = .ret) (hr : fn.results = #[r]) (h1 : Res1 P l w r v) (h : R v w) : TrK n [] (bodyPost P fn (Ret R) e) l w := by
  intro a ha
  have key : (results fn a.tmps).run P w = .ok v w := by
    cases r with
    | tmp t => have q := h1.tmp_ ha; simp [results, hr, q]
    | cell x t => obtain ⟨p, q, q'⟩ := h1.cell_ ha; simp [results, hr, q, q', asAddr]
  rcases he with rfl | rfl <;> exact ⟨ha.dfs, v, key, h⟩
theorem post_ret2 {fn : Func} {R : Value → World → Prop} {e : Exit} {r s : ResultVar} {v u : Value} (he : e = .normal ∨ e = .ret) (hr : fn.results = #[r, s]) (h1 : Res1 P l w r v) (h2 : Res1 P l w s u) (h : R (.tuple #[v, u]) w) :
    TrK n [] (bodyPost P fn (Ret R) e) l w := by
  intro a ha
  have key : (results fn a.tmps).run P w = .ok (.tuple #[v, u]) w := by
    cases r with
    | tmp t =>
      have q := h1.tmp_ ha
      cases s with
      | tmp t' => have q1 := h2.tmp_ ha; simp [results, hr, q, q1]
      | cell x t' => obtain ⟨p, q1, q1'⟩ := h2.cell_ ha; simp [results, hr, q, q1, q1', asAddr]
    | cell x t =>
      obtain ⟨p, q, q'⟩ := h1.cell_ ha
      cases s with
      | tmp t' => have q1 := h2.tmp_ ha; simp [results, hr, q, q', q1, asAddr]
      | cell x t' => obtain ⟨p, q1, q1'⟩ := h2.cell_ ha; simp [results, hr, q, q', q1, q1', asAddr]
  rcases he with rfl | rfl <;> exact ⟨ha.dfs, _, key, h⟩
theorem post_ret3 {fn : Func} {R : Value → World → Prop} {e : Exit} {r s t : ResultVar} {v u x : Value} (he : e = .normal ∨ e = .ret) (hr : fn.results = #[r, s, t]) (h1 : Res1 P l w r v) (h2 : Res1 P l w s u) (h3 : Res1 P l w t x)
    (h : R (.tuple #[v, u, x]) w) : TrK n [] (bodyPost P fn (Ret R) e) l w := by
  intro a ha
  have key : (results fn a.tmps).run P w = .ok (.tuple #[v, u, x]) w := by
    cases r with
    | tmp t1 =>
      have q := h1.tmp_ ha
      cases s with
      | tmp t2 =>
        have q1 := h2.tmp_ ha
        cases t with
        | tmp t3 => have q2 := h3.tmp_ ha; simp [results, hr, q, q1, q2]
        | cell x3 t3 => obtain ⟨p2, q2, q2'⟩ := h3.cell_ ha; simp [results, hr, q, q1, q2, q2', asAddr]
      | cell x2 t2 =>
        obtain ⟨p1, q1, q1'⟩ := h2.cell_ ha
        cases t with
        | tmp t3 => have q2 := h3.tmp_ ha; simp [results, hr, q, q1, q1', q2, asAddr]
        | cell x3 t3 => obtain ⟨p2, q2, q2'⟩ := h3.cell_ ha; simp [results, hr, q, q1, q1', q2, q2', asAddr]
    | cell x1 t1 =>
      obtain ⟨p, q, q'⟩ := h1.cell_ ha
      cases s with
      | tmp t2 =>
        have q1 := h2.tmp_ ha
        cases t with
        | tmp t3 => have q2 := h3.tmp_ ha; simp [results, hr, q, q', q1, q2, asAddr]
        | cell x3 t3 => obtain ⟨p2, q2, q2'⟩ := h3.cell_ ha; simp [results, hr, q, q', q1, q2, q2', asAddr]
      | cell x2 t2 =>
        obtain ⟨p1, q1, q1'⟩ := h2.cell_ ha
        cases t with
        | tmp t3 => have q2 := h3.tmp_ ha; simp [results, hr, q, q', q1, q1', q2, asAddr]
        | cell x3 t3 => obtain ⟨p2, q2, q2'⟩ := h3.cell_ ha; simp [results, hr, q, q', q1, q1', q2, q2', asAddr]
  rcases he with rfl | rfl <;> exact ⟨ha.dfs, _, key, h⟩
/-- A call that returns: as a structure, so that what does not fit fails at once. -/
structure Does (P : Program) (f : FuncId) (args : Array Value) (w : World) (R : Value → World → Prop) : Prop where
  out : Calls P f args w (Ret R)
theorem Does.mono {f : FuncId} {args : Array Value} {R R' : Value → World → Prop} (h : Does P f args w R) (hr : ∀ v w', R v w' → R' v w') : Does P f args w R' := ⟨Ret.mono h.out hr⟩
theorem does_enter0 {f : FuncId} {fn : Func} {c : Code} {R : Value → World → Prop} (hf : P.funcs[f]? = some fn) (hb : fn.body = some c) (hn : fn.ntmps = n) (hl : Nat.ble 0 n = true)
    (h : TrC P n [] c [] w (bodyPost P fn (Ret R))) : Does P f #[] w R := ⟨calls_enter (args := []) hf hb hn hl h⟩
theorem does_enter1 {f : FuncId} {fn : Func} {c : Code} {v0 : Value} {R : Value → World → Prop} (hf : P.funcs[f]? = some fn) (hb : fn.body = some c) (hn : fn.ntmps = n) (hl : Nat.ble 1 n = true)
    (h : TrC P n [] c [(0, v0)] w (bodyPost P fn (Ret R))) : Does P f #[v0] w R := ⟨calls_enter (args := [v0]) hf hb hn hl h⟩
theorem does_enter2 {f : FuncId} {fn : Func} {c : Code} {v0 v1 : Value} {R : Value → World → Prop} (hf : P.funcs[f]? = some fn) (hb : fn.body = some c) (hn : fn.ntmps = n) (hl : Nat.ble 2 n = true)
    (h : TrC P n [] c [(0, v0), (1, v1)] w (bodyPost P fn (Ret R))) : Does P f #[v0, v1] w R := ⟨calls_enter (args := [v0, v1]) hf hb hn hl h⟩
theorem does_enter3 {f : FuncId} {fn : Func} {c : Code} {v0 v1 v2 : Value} {R : Value → World → Prop} (hf : P.funcs[f]? = some fn) (hb : fn.body = some c) (hn : fn.ntmps = n) (hl : Nat.ble 3 n = true)
    (h : TrC P n [] c [(0, v0), (1, v1), (2, v2)] w (bodyPost P fn (Ret R))) : Does P f #[v0, v1, v2] w R := ⟨calls_enter (args := [v0, v1, v2]) hf hb hn hl h⟩
theorem does_enter4 {f : FuncId} {fn : Func} {c : Code} {v0 v1 v2 v3 : Value} {R : Value → World → Prop} (hf : P.funcs[f]? = some fn) (hb : fn.body = some c) (hn : fn.ntmps = n) (hl : Nat.ble 4 n = true)
    (h : TrC P n [] c [(0, v0), (1, v1), (2, v2), (3, v3)] w (bodyPost P fn (Ret R))) : Does P f #[v0, v1, v2, v3] w R := ⟨calls_enter (args := [v0, v1, v2, v3]) hf hb hn hl h⟩
theorem does_enter5 {f : FuncId} {fn : Func} {c : Code} {v0 v1 v2 v3 v4 : Value} {R : Value → World → Prop} (hf : P.funcs[f]? = some fn) (hb : fn.body = some c) (hn : fn.ntmps = n) (hl : Nat.ble 5 n = true)
    (h : TrC P n [] c [(0, v0), (1, v1), (2, v2), (3, v3), (4, v4)] w (bodyPost P fn (Ret R))) : Does P f #[v0, v1, v2, v3, v4] w R := ⟨calls_enter (args := [v0, v1, v2, v3, v4]) hf hb hn hl h⟩
theorem does_enter6 {f : FuncId} {fn : Func} {c : Code} {v0 v1 v2 v3 v4 v5 : Value} {R : Value → World → Prop} (hf : P.funcs[f]? = some fn) (hb : fn.body = some c) (hn : fn.ntmps = n) (hl : Nat.ble 6 n = true)
    (h : TrC P n [] c [(0, v0), (1, v1), (2, v2), (3, v3), (4, v4), (5, v5)] w (bodyPost P fn (Ret R))) : Does P f #[v0, v1, v2, v3, v4, v5] w R := ⟨calls_enter (args := [v0, v1, v2, v3, v4, v5]) hf hb hn hl h⟩
theorem does_enter7 {f : FuncId} {fn : Func} {c : Code} {v0 v1 v2 v3 v4 v5 v6 : Value} {R : Value → World → Prop} (hf : P.funcs[f]? = some fn) (hb : fn.body = some c) (hn : fn.ntmps = n) (hl : Nat.ble 7 n = true)
    (h : TrC P n [] c [(0, v0), (1, v1), (2, v2), (3, v3), (4, v4), (5, v5), (6, v6)] w (bodyPost P fn (Ret R))) : Does P f #[v0, v1, v2, v3, v4, v5, v6] w R := ⟨calls_enter (args := [v0, v1, v2, v3, v4, v5, v6]) hf hb hn hl h⟩

def evs (l : List (Nat × Value)) : List Operand → Option (List Value)
  | [] => some []
  | x :: xs => match ev l x with
    | some v => match evs l xs with
      | some vs => some (v :: vs)
      | none => none
    | none => none
theorem evs_map {ρ : Operand → Value} (k : Knows l ρ) : ∀ (xs : List Operand) (vs : List Value), evs l xs = some vs → xs.map ρ = vs
  | [], vs, h => by simp [evs] at h; simp [h]
  | x :: xs, vs, h => by
    unfold evs at h
    cases hx : ev l x with
    | none => rw [hx] at h; cases h
    | some v =>
      rw [hx] at h
      cases hxs : evs l xs with
      | none => rw [hxs] at h; cases h
      | some us =>
        rw [hxs] at h
        injection h with h
        subst h
        simp [k _ _ hx, evs_map k xs us hxs]
section
variable {all : Array Oper} {o : Oper} {rest : List Oper} {v : Value} {d : Nat} {w' : World} {f : FuncId} {fx : Operand} {xs : List Operand} {ats : Array TypeId} {args caps : List Value}
theorem or_call (ho : o.op = .call { callee := .value fx, args := xs.toArray, argTypes := ats }) (hfx : ev l fx = some (.func (.func f) #[] #[])) (ha : evs l xs = some args) (hc : ∀ ys w, (callFunc f ys).run P w = .ok (.enter f ys) w) :
    OpR P l w o (.enter f args.toArray) w := by
  intro ρ k
  have := evs_map k xs args ha
  simp [execOp, ho, resolve, k _ _ hfx, Deferred.ofValue, invoke, hc, this]
theorem or_callc (ho : o.op = .call { callee := .value fx, args := xs.toArray, argTypes := ats }) (hfx : ev l fx = some (.func (.func f) #[] caps.toArray)) (ha : evs l xs = some args) (hc : ∀ ys w, (callFunc f ys).run P w = .ok (.enter f ys) w) :
    OpR P l w o (.enter f (args ++ caps).toArray) w := by
  intro ρ k
  have := evs_map k xs args ha
  simp [execOp, ho, resolve, k _ _ hfx, Deferred.ofValue, invoke, hc, this]
theorem tr_call {R : Value → World → Prop} (hc : Does P f args.toArray w R) (ho : o.op = .call { callee := .value fx, args := xs.toArray, argTypes := ats }) (hfx : ev l fx = some (.func (.func f) #[] #[])) (ha : evs l xs = some args) (hcf : ∀ ys w, (callFunc f ys).run P w = .ok (.enter f ys) w)
    (hd : o.dst = some d) (hn : Nat.blt d n = true) (hg : wants all l o = some true) (k : ∀ v w', R v w' → TrL P n D all rest ((d, v) :: l) w' Q) : TrL P n D all (o :: rest) l w Q :=
  tr_enter (or_call ho hfx ha hcf) hc.out hd hn hg k
theorem tr_call0 {R : Value → World → Prop} (hc : Does P f args.toArray w R) (ho : o.op = .call { callee := .value fx, args := xs.toArray, argTypes := ats }) (hfx : ev l fx = some (.func (.func f) #[] #[])) (ha : evs l xs = some args) (hcf : ∀ ys w, (callFunc f ys).run P w = .ok (.enter f ys) w)
    (hd : o.dst = none) (hg : wants all l o = some true) (k : ∀ v w', R v w' → TrL P n D all rest l w' Q) : TrL P n D all (o :: rest) l w Q :=
  tr_enter0 (or_call ho hfx ha hcf) hc.out hd hg k
theorem tr_callc {R : Value → World → Prop} (hc : Does P f (args ++ caps).toArray w R) (ho : o.op = .call { callee := .value fx, args := xs.toArray, argTypes := ats }) (hfx : ev l fx = some (.func (.func f) #[] caps.toArray)) (ha : evs l xs = some args) (hcf : ∀ ys w, (callFunc f ys).run P w = .ok (.enter f ys) w)
    (hd : o.dst = some d) (hn : Nat.blt d n = true) (hg : wants all l o = some true) (k : ∀ v w', R v w' → TrL P n D all rest ((d, v) :: l) w' Q) : TrL P n D all (o :: rest) l w Q :=
  tr_enter (or_callc ho hfx ha hcf) hc.out hd hn hg k
theorem tr_callc0 {R : Value → World → Prop} (hc : Does P f (args ++ caps).toArray w R) (ho : o.op = .call { callee := .value fx, args := xs.toArray, argTypes := ats }) (hfx : ev l fx = some (.func (.func f) #[] caps.toArray)) (ha : evs l xs = some args) (hcf : ∀ ys w, (callFunc f ys).run P w = .ok (.enter f ys) w)
    (hd : o.dst = none) (hg : wants all l o = some true) (k : ∀ v w', R v w' → TrL P n D all rest l w' Q) : TrL P n D all (o :: rest) l w Q :=
  tr_enter0 (or_callc ho hfx ha hcf) hc.out hd hg k
/-- A test whose value is not known parts the ways, within a region. -/
theorem tr_split {ops : List Oper} {t : Nat} {p : Prop} [Decidable p] (e : look l t = some (.bool (decide p))) (ht : p → TrL P n D all ops ((t, .bool true) :: l) w Q) (hf : ¬ p → TrL P n D all ops ((t, .bool false) :: l) w Q) : TrL P n D all ops l w Q := by
  by_cases hp : p
  · exact TrL.sub (Sub.cons (by rw [e, decide_eq_true hp]) (Sub.refl l)) (ht hp)
  · exact TrL.sub (Sub.cons (by rw [e, decide_eq_false hp]) (Sub.refl l)) (hf hp)
theorem tr_splitb {ops : List Oper} {t : Nat} {b : Bool} (e : look l t = some (.bool b)) (ht : b = true → TrL P n D all ops ((t, .bool true) :: l) w Q) (hf : b = false → TrL P n D all ops ((t, .bool false) :: l) w Q) : TrL P n D all ops l w Q := by
  cases b with
  | true => exact TrL.sub (Sub.cons e (Sub.refl l)) (ht rfl)
  | false => exact TrL.sub (Sub.cons e (Sub.refl l)) (hf rfl)
/-- A region's ways meet again. -/
theorem tr_region_cut {id : Nat} {ops : List Oper} {l' : List (Nat × Value)} (I : World → Prop) (h : ∀ K : Act → World → Prop, (∀ w, I w → TrK n D K l' w) → TrL P n D ops.toArray ops l w (Exit.then K Q)) (k : ∀ w, I w → TrK n D (Q .normal) l' w) : TrC P n D (.region id ops.toArray false) l w Q := by
  intro a ha
  refine wp_mono (wp_region_lit (h (fun a w => Q .normal a w) (fun w hw => k w hw) a ha)) ?_
  intro e a w q
  cases e <;> exact q
end
/-- Some slots of a list. -/
def sel : List Nat → List (Nat × Value) → List (Nat × Value)
  | [], _ => []
  | t :: ts, l => match look l t with
    | some v => (t, v) :: sel ts l
    | none => sel ts l
theorem Sub.sel : ∀ (ts : List Nat) (l : List (Nat × Value)), Sub (sel ts l) l
  | [], l => Sub.nil
  | t :: ts, l => by
    unfold Go.Proofs.Ytblipnjjgbggiaa.sel
    cases h : look l t with
    | none => exact Sub.sel ts l
    | some v => exact Sub.cons h (Sub.sel ts l)
theorem TrC.keep {c : Code} (ts : List Nat) (h : TrC P n D c (sel ts l) w Q) : TrC P n D c l w Q := h.sub (Sub.sel ts l)
theorem TrL.keep {all : Array Oper} {ops : List Oper} (ts : List Nat) (h : TrL P n D all ops (sel ts l) w Q) : TrL P n D all ops l w Q := h.sub (Sub.sel ts l)
theorem tr_loop_ {c : Code} {X : Type} (same : List Nat) (V : X → List (Nat × Value)) (I : X → World → Prop) (μ : X → Nat) (x : X) (hl : Sub (V x ++ sel same l) l) (hI : I x w)
    (round : ∀ (x : X) (w : World), I x w → ∀ K : Act → World → Prop, (∀ (x' : X) (l' : List (Nat × Value)) (w' : World), I x' w' → μ x' < μ x → Sub (V x' ++ sel same l) l' → TrK n D K l' w') → TrC P n D c (V x ++ sel same l) w (Exit.then K Q)) :
    TrC P n D (.loop c) l w Q := tr_loop (fun x => V x ++ sel same l) I μ x hl hI round
theorem tr_cut {id : Nat} {ops : List Oper} (ts : List Nat) (new : List (Nat × Value)) (I : World → Prop) (h : ∀ K : Act → World → Prop, (∀ l' w, Sub (new ++ sel ts l) l' → I w → TrK n D K l' w) → TrL P n D ops.toArray ops l w (Exit.then K Q))
    (k : ∀ w, I w → TrK n D (Q .normal) (new ++ sel ts l) w) : TrC P n D (.region id ops.toArray false) l w Q :=
  tr_region_cut (l' := new ++ sel ts l) I (fun K hK => h K (fun l' w hs hi => TrK.sub hs (hK w hi))) k
end
end Go.Proofs.Ytblipnjjgbggiaa
