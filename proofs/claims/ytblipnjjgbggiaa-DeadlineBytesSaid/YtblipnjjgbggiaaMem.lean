/- Memory: new variables, loads, stores, slices that are read, slices that grow. Conditions: none. -/
import Derived.Test.YtblipnjjgbggiaaHeap
import Derived.Deep.AppendSrc
namespace Go.Proofs.Ytblipnjjgbggiaa
open Go Go.RowKit
set_option linter.unusedVariables false
set_option linter.unusedSectionVars false
set_option linter.unusedSimpArgs false

theorem add_zero_ (a : Addr) : a.add 0 = a := rfl
theorem add_add (a : Addr) (i j : Nat) : (a.add i).add j = a.add (i + j) := by
  unfold Addr.add
  by_cases hi : i = 0 <;> by_cases hj : j = 0 <;> simp [hi, hj, Nat.add_assoc]
theorem add_lit (b off j : Nat) : (⟨b, off, none⟩ : Addr).add j = ⟨b, off + j, none⟩ := by
  unfold Addr.add
  by_cases hj : j = 0 <;> simp [hj]
theorem add_block (a : Addr) (i : Nat) : (a.add i).block = a.block := by unfold Addr.add; split <;> rfl

section
variable {P : Program} {n : Nat} {D : List Deferred} {Q : Exit → Act → World → Prop} {w w0 : World} {F : Nat → Prop} {rs : List Res} {l : List (Nat × Value)} {all : Array Oper} {o : Oper} {rest : List Oper} {d : Nat}
  {t e : TypeId} {x y : Operand} {a : Addr} {b j : Nat} {cs : List Value} {v z : Value}

/-! ### new variables -/
theorem or_alloc (ho : o.op = .alloc t) (hz : (zeroValue t).run P w = .ok z w) (hc : z.cells = cs.toArray) : OpR P l w o (.value (.pointer (some ⟨w.heap.size, 0, none⟩))) (w.alloc (.cells cs.toArray t)) := by
  intro ρ k; simp [execOp, ho, Instr.alloc, hz, newVar, newRow, hc, World.alloc_eq]
theorem or_box (ho : o.op = .box t x) (hx : ev l x = some v) (hc : v.cells = cs.toArray) : OpR P l w o (.value (.pointer (some ⟨w.heap.size, 0, none⟩))) (w.alloc (.cells cs.toArray t)) := by
  intro ρ k; simp [execOp, ho, Instr.box, k _ _ hx, newVar, newRow, hc, World.alloc_eq]
theorem tr_alloc (H : SH w0 F rs w) (ho : o.op = .alloc t) (hz : (zeroValue t).run P w = .ok z w) (hc : z.cells = cs.toArray) (hd : o.dst = some d) (hn : Nat.blt d n = true) (hg : wants all l o = some true)
    (k : ∀ b w1, w0.heap.size ≤ b → SH w0 F (blk b t cs :: rs) w1 → TrL P n D all rest ((d, .pointer (some ⟨b, 0, none⟩)) :: l) w1 Q) : TrL P n D all (o :: rest) l w Q :=
  tr_op (or_alloc ho hz hc) hd hn hg (k _ _ H.size (H.add (upd_alloc w t cs)))
theorem tr_box (H : SH w0 F rs w) (ho : o.op = .box t x) (hx : ev l x = some v) (hc : v.cells = cs.toArray) (hd : o.dst = some d) (hn : Nat.blt d n = true) (hg : wants all l o = some true)
    (k : ∀ b w1, w0.heap.size ≤ b → SH w0 F (blk b t cs :: rs) w1 → TrL P n D all rest ((d, .pointer (some ⟨b, 0, none⟩)) :: l) w1 Q) : TrL P n D all (o :: rest) l w Q :=
  tr_op (or_box ho hx hc) hd hn hg (k _ _ H.size (H.add (upd_alloc w t cs)))

/-! ### loads from a block that is known -/
theorem ov_load_blk (h : (blk b e cs).holds w) (ho : o.op = .load t x) (ht : (isAgg t).run P w = .ok false w) (hx : ev l x = some (.pointer (some a))) (ha : a = ⟨b, j, none⟩) (hj : cs[j]? = some v) : OpV P l w o v :=
  ov_load1 ho ht (by rw [hx, ha]) (blk_cell h hj)
theorem ov_load_blkN {m : Nat} (h : (blk b e cs).holds w) (ho : o.op = .load t x) (ht : (isAgg t).run P w = .ok true w) (hz : (sizeOf t).run P w = .ok m w) (hm : m = cs.length) (hx : ev l x = some (.pointer (some a))) (ha : a = ⟨b, 0, none⟩) : OpV P l w o (.agg cs.toArray) := by
  subst hm
  refine ov_loadN ho ht hz (by rw [hx, ha]) fun j v hj => ?_
  rw [add_lit, Nat.zero_add]
  exact blk_cell h hj
/-- A part of a block. -/
theorem ov_load_blkP {m : Nat} {vs : List Value} (h : (blk b e cs).holds w) (ho : o.op = .load t x) (ht : (isAgg t).run P w = .ok true w) (hz : (sizeOf t).run P w = .ok m w) (hm : m = vs.length) (hx : ev l x = some (.pointer (some a))) (ha : a = ⟨b, j, none⟩)
    (hv : (cs.drop j).take vs.length = vs) : OpV P l w o (.agg vs.toArray) := by
  subst hm
  refine ov_loadN ho ht hz (by rw [hx, ha]) fun i v hi => ?_
  rw [add_lit]
  refine blk_cell h ?_
  have hlt : i < vs.length := by
    rcases Nat.lt_or_ge i vs.length with h' | h'
    · exact h'
    · rw [List.getElem?_eq_none h'] at hi; cases hi
  rw [← hv] at hi
  simpa [List.getElem?_take, hlt, List.getElem?_drop] using hi

/-! ### stores into a block that is known -/
theorem run_storeVar1 (hz : (sizeOf t).run P w = .ok 1 w) (hv : v.oneCell' = true) (h : (blk b e cs).holds w) (hj : Nat.blt j cs.length = true) : (storeVar t ⟨b, j, none⟩ v).run P w = .ok () (w.setCell ⟨b, j, none⟩ v) := by
  have hlt : j < cs.length := Nat.blt_eq.mp hj
  have hc : v.cells = #[v] := by cases v <;> first | rfl | (simp [Value.oneCell'] at hv)
  have hcell := blk_cell h (List.getElem?_eq_getElem hlt)
  have hfr := blk_frozen h j
  simp only [storeVar, hc, Sem.run_bind, hz, Result.andThen_ok]
  simp [storeCells, run_store P w _ v .plain hv, stored, hcell, hfr, add_zero_]
theorem or_store (h : (blk b e cs).holds w) (ho : o.op = .store t x y) (hz : (sizeOf t).run P w = .ok 1 w) (hx : ev l x = some (.pointer (some a))) (ha : a = ⟨b, j, none⟩) (hy : ev l y = some v) (hv : v.oneCell' = true) (hj : Nat.blt j cs.length = true) : OpR P l w o .skip (w.setCell ⟨b, j, none⟩ v) := by
  subst ha
  intro ρ k
  simp [execOp, ho, k _ _ hx, k _ _ hy, Instr.storeAt, Instr.sureAddr, run_storeVar1 (P := P) hz hv h hj]
theorem tr_store (h : (blk b e cs).holds w) (ho : o.op = .store t x y) (hz : (sizeOf t).run P w = .ok 1 w) (hx : ev l x = some (.pointer (some a))) (ha : a = ⟨b, j, none⟩) (hy : ev l y = some v) (hv : v.oneCell' = true) (hj : Nat.blt j cs.length = true) (hd : o.dst = none) (hg : wants all l o = some true)
    (k : ∀ w1, Upd w (blk b e cs) (blk b e (cs.set j v)) w1 → TrL P n D all rest l w1 Q) : TrL P n D all (o :: rest) l w Q :=
  tr_op0 (or_store h ho hz hx ha hy hv hj) hd hg (k _ (upd_set h j v))

/-- Cells laid over others, from j on. -/
def over : List Value → Nat → List Value → List Value
  | cs, _, [] => cs
  | cs, j, v :: vs => over (cs.set j v) (j + 1) vs
theorem over_length : ∀ (vs cs : List Value) (j : Nat), (over cs j vs).length = cs.length
  | [], _, _ => rfl
  | v :: vs, cs, j => by rw [over, over_length vs]; simp
theorem over_eq : ∀ (vs cs : List Value) (j : Nat), j + vs.length ≤ cs.length → over cs j vs = cs.take j ++ vs ++ cs.drop (j + vs.length)
  | [], cs, j, _ => by simp [over]
  | v :: vs, cs, j, h => by
    have hl : j < cs.length := by simp at h; omega
    rw [over, over_eq vs (cs.set j v) (j + 1) (by simp at h ⊢; omega)]
    have h1 : (cs.set j v).take (j + 1) = cs.take j ++ [v] := by
      apply List.ext_getElem?
      intro i
      rw [List.getElem?_take]
      by_cases hi : i < j
      · have : i < j + 1 := by omega
        rw [if_pos this, List.getElem?_append_left (by simp; omega), List.getElem?_take, if_pos hi, List.getElem?_set_ne (by omega)]
      · by_cases hi' : i = j
        · subst hi'
          rw [if_pos (by omega), List.getElem?_append_right (by simp [Nat.min_le_left])]
          simp [Nat.min_eq_left (Nat.le_of_lt hl), hl]
        · rw [if_neg (by omega), List.getElem?_append_right (by simp; omega)]
          simp [Nat.min_eq_left (Nat.le_of_lt hl)]
          omega
    have h2 : (cs.set j v).drop (j + 1 + vs.length) = cs.drop (j + (vs.length + 1)) := by
      rw [List.drop_set, if_pos (by omega)]
      congr 1
      omega
    rw [h1, h2]
    simp
theorem over_all {vs cs : List Value} (h : vs.length = cs.length) : over cs 0 vs = vs := by
  rw [over_eq vs cs 0 (by omega)]
  simp [h]
theorem upd_over : ∀ (vs cs : List Value) (j : Nat) (w : World), (blk b e cs).holds w → j + vs.length ≤ cs.length → (∀ v, v ∈ vs → v.oneCell' = true) →
    ∃ w1, (∀ i : Nat, (storeCells ⟨b, j - i, none⟩ vs i).run P w = .ok () w1 ∨ j < i) ∧ Upd w (blk b e cs) (blk b e (over cs j vs)) w1
  | [], cs, j, w, h, _, _ => ⟨w, fun i => .inl (by simp [storeCells]), ⟨rfl, rfl, rfl, Nat.le_refl _, fun _ _ _ => rfl, h, fun _ hb => .inl hb⟩⟩
  | v :: vs, cs, j, w, h, hl, h1 => by
    have hlt : j < cs.length := by simp at hl; omega
    have hv := h1 v (by simp)
    have hcell := blk_cell h (List.getElem?_eq_getElem hlt)
    have hfr := blk_frozen h j
    have U := upd_set h j v
    obtain ⟨w1, hr, U1⟩ := upd_over vs (cs.set j v) (j + 1) _ U.hold (by simp at hl ⊢; omega) (fun u hu => h1 u (by simp [hu]))
    refine ⟨w1, fun i => ?_, ⟨U1.os.trans U.os, U1.tape.trans U.tape, U1.output.trans U.output, Nat.le_trans U.size U1.size, fun x hx hne => (U1.keep x (Nat.lt_of_lt_of_le hx U.size) hne).trans (U.keep x hx hne), U1.hold, fun x hx => .inl hx⟩⟩
    by_cases hi : i ≤ j
    · refine .inl ?_
      have hadd : (⟨b, j - i, none⟩ : Addr).add i = ⟨b, j, none⟩ := by rw [add_lit]; congr 1; omega
      have hrest := (hr (i + 1)).resolve_right (by omega)
      have e1 : j + 1 - (i + 1) = j - i := by omega
      rw [e1] at hrest
      simp [storeCells, hadd, run_store P w _ v .plain hv, stored, hcell, hfr, hrest]
    · exact .inr (by omega)
theorem tr_storeN {m : Nat} {vs : List Value} (h : (blk b e cs).holds w) (ho : o.op = .store t x y) (hz : (sizeOf t).run P w = .ok m w) (hm : m = vs.length) (hx : ev l x = some (.pointer (some a))) (ha : a = ⟨b, j, none⟩) (hy : ev l y = some (.agg vs.toArray))
    (hv : vs.all Value.oneCell' = true) (hj : j + vs.length ≤ cs.length) (hd : o.dst = none) (hg : wants all l o = some true)
    (k : ∀ w1, Upd w (blk b e cs) (blk b e (over cs j vs)) w1 → TrL P n D all rest l w1 Q) : TrL P n D all (o :: rest) l w Q := by
  subst ha; subst hm
  obtain ⟨w1, hr, U⟩ := upd_over (P := P) vs cs j w h hj (fun v hv' => List.all_eq_true.mp hv v hv')
  have hr0 := (hr 0).resolve_right (by omega)
  refine tr_op0 (w' := w1) ?_ hd hg (k w1 U)
  intro ρ k
  simp only [Nat.sub_zero] at hr0
  simp [execOp, ho, k _ _ hx, k _ _ hy, Instr.storeAt, Instr.sureAddr, storeVar, hz, Value.cells, hr0]
/-- A whole variable. -/
theorem tr_storeW {m : Nat} {vs : List Value} (h : (blk b e cs).holds w) (ho : o.op = .store t x y) (hz : (sizeOf t).run P w = .ok m w) (hm : m = vs.length) (hx : ev l x = some (.pointer (some a))) (ha : a = ⟨b, 0, none⟩) (hy : ev l y = some (.agg vs.toArray))
    (hv : vs.all Value.oneCell' = true) (hj : vs.length = cs.length) (hd : o.dst = none) (hg : wants all l o = some true)
    (k : ∀ w1, Upd w (blk b e cs) (blk b e vs) w1 → TrL P n D all rest l w1 Q) : TrL P n D all (o :: rest) l w Q :=
  tr_storeN h ho hz hm hx ha hy hv (by omega) hd hg (fun w1 U => k w1 (by rwa [over_all hj] at U))

/-! ### slices that are read -/
def Rd (w : World) (A : Option Addr) (sz : Nat) (xs : List (List Value)) : Prop :=
  (xs ≠ [] → A.isSome = true) ∧ ∀ i j c u, xs[i]? = some c → c[j]? = some u → w.cell? ((adr A).add (i * sz + j)) = some u
theorem Rd.some_ {A : Option Addr} {sz : Nat} {xs : List (List Value)} (h : Rd w A sz xs) {i : Nat} (hi : i < xs.length) : A.isSome = true := h.1 (by intro e; subst e; simp at hi)
theorem Rd.cell_ {A : Option Addr} {sz : Nat} {xs : List (List Value)} (h : Rd w A sz xs) {i : Nat} {c : List Value} (hi : xs[i]? = some c) {j : Nat} {u : Value} (hu : c[j]? = some u) : w.cell? (((adr A).add (i * sz)).add j) = some u := by
  rw [add_add]; exact h.2 i j c u hi hu
theorem Rd.nil {A : Option Addr} {sz : Nat} : Rd w A sz [] := ⟨fun h => absurd rfl h, fun i j c u h => by simp at h⟩
theorem Rd.mono {w' : World} {A : Option Addr} {sz : Nat} {xs : List (List Value)} (h : Rd w A sz xs) (hk : ∀ p v, p.block = (adr A).block → w.cell? p = some v → w'.cell? p = some v) : Rd w' A sz xs :=
  ⟨h.1, fun i j c u hi hu => hk _ _ (add_block _ _) (h.2 i j c u hi hu)⟩
theorem SH.rd {A : Option Addr} {sz : Nat} {xs : List (List Value)} (H : SH w0 F rs w) (h : Rd w0 A sz xs) (hF : ¬ F (adr A).block) : Rd w A sz xs := h.mono fun p v hp hc => H.cell hc (by rw [hp]; exact hF)
theorem SH.rd0 {A : Option Addr} {sz : Nat} {xs : List (List Value)} (H : SH w0 noBlocks rs w) (h : Rd w0 A sz xs) : Rd w A sz xs := H.rd h id

/-! ### slices that grow: rows of the call's own -/
def inRow : Option Addr → Nat → Prop
  | some a, b => a.block = b
  | none, _ => False
theorem ownsRow_of_block {w w' : World} {base e sz n : Nat} {v : Value} {xs : List Value} (h : w.ownsRow base e sz v n xs) (hb : ∀ g, v.ownBlock = some g → w'.heap[g]? = w.heap[g]?) : w'.ownsRow base e sz v n xs := by
  refine ⟨h.1, ?_⟩
  rcases h.2 with h2 | ⟨g, cap, cur, rfl, h3, h4, h5⟩
  · exact .inl h2
  · exact .inr ⟨g, cap, cur, rfl, h3, (hb g rfl).trans h4, h5⟩
def row (A : Option Addr) (n c : Nat) (e : TypeId) (sz : Nat) (xs : List Value) : Res :=
  ⟨inRow A, fun w => w.ownsRow 0 e sz (.slice A n c) n xs, fun w w' h hw => ownsRow_of_block hw fun g hg => h g (by cases A <;> simp_all [Value.ownBlock, inRow]), fun w b hw hb => by
    cases A with
    | none => exact hb.elim
    | some a => exact (hw.lt b (congrArg some (show a.block = b from hb))).2⟩
theorem upd_row {A A' : Option Addr} {n c n' c' : Nat} {e : TypeId} {sz : Nat} {xs xs' : List Value} {w' : World} (h : w'.ownsRow 0 e sz (.slice A' n' c') n' xs') (g : w.grownBy w' (Value.slice A n c).ownBlock)
    (hnew : ∀ b, inRow A' b → inRow A b ∨ w.heap.size ≤ b) : Upd w (row A n c e sz xs) (row A' n' c' e sz xs') w' :=
  ⟨g.os, g.tape, g.output, g.size, fun b hb hne => g.block b hb (fun e => hne (by cases A with | none => cases e | some a => injection e with e; exact e.symm)), h, hnew⟩

theorem flatten_get {sz : Nat} : ∀ (xs : List (List Value)) (i j : Nat) (c : List Value) (u : Value), (∀ c, c ∈ xs → c.length = sz) → xs[i]? = some c → c[j]? = some u → xs.flatten[i * sz + j]? = some u
  | [], i, j, c, u, _, h, _ => by simp at h
  | x :: xs, 0, j, c, u, hx, h, hu => by
    simp at h; subst h
    have hj : j < x.length := by
      rcases Nat.lt_or_ge j x.length with h' | h'
      · exact h'
      · rw [List.getElem?_eq_none h'] at hu; cases hu
    simp only [List.flatten_cons, Nat.zero_mul, Nat.zero_add]
    rw [List.getElem?_append_left hj]; exact hu
  | x :: xs, i + 1, j, c, u, hx, h, hu => by
    have ih := flatten_get xs i j c u (fun c hc => hx c (by simp [hc])) (by simpa using h) hu
    have hl := hx x (by simp)
    simp only [List.flatten_cons]
    rw [List.getElem?_append_right (by rw [hl, Nat.add_mul]; omega)]
    rw [hl, show (i + 1) * sz + j - sz = i * sz + j by rw [Nat.add_mul]; omega]
    exact ih

/-- A growing slice over a list. -/
def vec {α : Type} (A : Option Addr) (c : Nat) (e : TypeId) (sz : Nat) (enc : α → List Value) (L : List α) : Res := row A L.length c e sz (L.flatMap enc)
section
variable {α : Type} {A : Option Addr} {c sz : Nat} {enc : α → List Value} {L : List α}
theorem vec_rd (h : (vec A c e sz enc L).holds w) (hx : ∀ x, (enc x).length = sz) (hsz : 0 < sz) : Rd w A sz (L.map enc) := by
  have h' : w.ownsRow 0 e sz (.slice A L.length c) L.length (L.flatMap enc) := h
  have hx' : ∀ c, c ∈ L.map enc → c.length = sz := by simp; intro a _; exact hx a
  rcases h'.2 with ⟨e1, e2⟩ | ⟨g, cap, cur, hv, _, hg, _, _, hcs, htake⟩
  · have : L = [] := List.eq_nil_of_length_eq_zero e2
    subst this
    exact Rd.nil
  · injection hv with hA _ _
    subst hA
    refine ⟨fun _ => rfl, fun i j cc u hi hu => ?_⟩
    have hf := flatten_get (L.map enc) i j cc u hx' hi hu
    rw [← List.flatMap_def] at hf
    have := h'.cells (g := g) rfl _ _ hf
    exact this
theorem vec_len (h : (vec A c e sz enc L).holds w) : L.length ≤ c := by
  have h' : w.ownsRow 0 e sz (.slice A L.length c) L.length (L.flatMap enc) := h
  rcases h'.2 with ⟨e1, e2⟩ | ⟨g, cap, cur, hv, _, _, hc, _⟩
  · omega
  · injection hv with _ _ h3; omega
theorem vec_nil (w : World) (e : TypeId) (sz : Nat) (enc : α → List Value) : (vec none 0 e sz enc ([] : List α)).holds w := World.ownsRow_nil w 0 e sz
theorem upd_emp_nil (w : World) (e : TypeId) (sz : Nat) (enc : α → List Value) : Upd w emp (vec none 0 e sz enc ([] : List α)) w := ⟨rfl, rfl, rfl, Nat.le_refl _, fun _ _ _ => rfl, vec_nil w e sz enc, fun b hb => hb.elim⟩
theorem SH.addNil (H : SH w0 F rs w) (e : TypeId) (sz : Nat) (enc : α → List Value) : SH w0 F (vec none 0 e sz enc ([] : List α) :: rs) w := H.add (upd_emp_nil w e sz enc)
theorem upd_conv {r r' : Res} (w : World) (h : r.holds w) (hr : r.holds w → r'.holds w) (hf : ∀ b, r'.foot b → r.foot b) : Upd w r r' w := ⟨rfl, rfl, rfl, Nat.le_refl _, fun _ _ _ => rfl, hr h, fun b hb => .inl (hf b hb)⟩
theorem upd_vec_of_blk (h : (blk b e cs).holds w) (hc : cs = L.flatMap enc) (hx : ∀ x, (enc x).length = sz) (hm : L.length ≤ maxLen) : Upd w (blk b e cs) (vec (some ⟨b, 0, none⟩) L.length e sz enc L) w := by
  have hlen : cs.length = L.length * sz := by
    subst hc
    clear h
    clear hm
    induction L with
    | nil => simp
    | cons x xs ih => simp only [List.flatMap_cons, List.length_append, ih, hx, List.length_cons, Nat.add_mul]; omega
  refine upd_conv w h (fun h => ?_) (fun x hx => (show b = x from hx).symm)
  have h : w.heap[b]? = some (.cells cs.toArray e (0, 0)) := h
  refine ⟨by rw [← hc]; exact hlen, .inr ⟨b, L.length, cs.toArray, rfl, Nat.zero_le _, h, Nat.le_refl _, hm, by simpa using hlen, ?_⟩⟩
  simp only [List.toList_toArray]
  rw [List.take_of_length_le (by omega), hc]

theorem flatMap_len (hx : ∀ x, (enc x).length = sz) : ∀ (L : List α), (L.flatMap enc).length = L.length * sz
  | [] => by simp
  | x :: xs => by simp only [List.flatMap_cons, List.length_append, flatMap_len hx xs, hx, List.length_cons, Nat.add_mul]; omega

/-- append(s, x...): a slice of the call's own grows by what another one holds. -/
theorem run_append_vec {ty : TypeId} {i : TypeInfo} {z : Value} {bytes : Nat} {A2 : Option Addr} {c2 : Nat} {M : List α} (H : (vec A c e sz enc L).holds w) (hR : Rd w A2 sz (M.map enc)) (ht : P.underlying t = some (.slice e)) (hi : P.info? e = some i) (hz : i.zero = some z)
    (hsize : i.size = sz) (hby : i.bytes = bytes) (hzs : z.cells.size = sz) (hsz : 0 < sz) (hx : ∀ x, (enc x).length = sz) (h1 : ∀ x u, u ∈ enc x → u.oneCell' = true) (hb : (L.length + M.length) * bytes ≤ 140737488355328) (hml : L.length + M.length ≤ maxLen) :
    ∃ A' c' w', (Builtin.append_ #[t, t] ty #[.slice A L.length c, .slice A2 M.length c2]).run P w = .ok (.slice A' (L ++ M).length c') w' ∧ Upd w (vec A c e sz enc L) (vec A' c' e sz enc (L ++ M)) w' := by
  have h' : w.ownsRow 0 e sz (.slice A L.length c) L.length (L.flatMap enc) := H
  cases A2 with
  | none =>
    have hM : M = [] := by
      cases M with
      | nil => rfl
      | cons m M => have := hR.1 (by simp); cases this
    subst hM
    refine ⟨A, c, w, ?_, by simpa using upd_conv w H id fun b hb => hb⟩
    have hle := vec_len H
    cases A with
    | none => simp [Builtin.append_, run_underlying ht, sizeOf, typeInfo, hi, Builtin.lenOf, Builtin.firstCells, hle]
    | some a => simp [Builtin.append_, run_underlying ht, sizeOf, typeInfo, hi, Builtin.lenOf, Builtin.firstCells, hle, storeCells]
  | some a2 =>
    have hlM := flatMap_len hx M
    have hnews : ∀ j u, (M.flatMap enc)[j]? = some u → w.cell? (a2.add j) = some u := by
      intro j u hj
      have hlt : j < M.length * sz := by
        rw [← hlM]
        rcases Nat.lt_or_ge j (M.flatMap enc).length with h' | h'
        · exact h'
        · rw [List.getElem?_eq_none h'] at hj; cases hj
      have hq : j / sz < M.length := Nat.div_lt_of_lt_mul (by rw [Nat.mul_comm]; exact hlt)
      have hmod : j % sz < sz := Nat.mod_lt _ hsz
      have hc : (M.map enc)[j / sz]? = some (enc M[j / sz]) := by simp [hq]
      have hl : j % sz < (enc M[j / sz]).length := by rw [hx]; exact hmod
      have hu := List.getElem?_eq_getElem hl
      have hf := flatten_get (M.map enc) (j / sz) (j % sz) _ _ (by simp; intro a _; exact hx a) hc hu
      rw [← List.flatMap_def, Nat.div_add_mod'] at hf
      rw [hj] at hf
      injection hf with hf
      have := hR.2 (j / sz) (j % sz) _ _ hc hu
      rw [Nat.div_add_mod'] at this
      rw [hf]
      exact this
    have hone : ∀ u, u ∈ M.flatMap enc → u.oneCell' = true := by intro u hu; obtain ⟨m, _, hm⟩ := List.mem_flatMap.mp hu; exact h1 m u hm
    have fin : ∀ A' c' w', (Builtin.append_ #[t, t] ty #[.slice A L.length c, .slice (some a2) M.length c2]).run P w = .ok (.slice A' (L.length + M.length) c') w' →
        w'.ownsRow 0 e sz (.slice A' (L.length + M.length) c') (L.length + M.length) (L.flatMap enc ++ M.flatMap enc) → w.grownBy w' (Value.slice A L.length c).ownBlock → (∀ b, inRow A' b → inRow A b ∨ w.heap.size ≤ b) →
        ∃ A' c' w', (Builtin.append_ #[t, t] ty #[.slice A L.length c, .slice (some a2) M.length c2]).run P w = .ok (.slice A' (L ++ M).length c') w' ∧ Upd w (vec A c e sz enc L) (vec A' c' e sz enc (L ++ M)) w' := by
      intro A' c' w' hr hown hgr hnew
      refine ⟨A', c', w', by simpa using hr, ?_⟩
      have hown2 : w'.ownsRow 0 e sz (.slice A' (L ++ M).length c') (L ++ M).length ((L ++ M).flatMap enc) := by simpa using hown
      exact upd_row hown2 hgr hnew
    rcases h'.2 with ⟨e1, e2⟩ | ⟨g, cap, cur, hv, _, hg, hnc, hcm, hcs, htake⟩
    · have hA : A = none := by injection e1
      have hc0 : c = 0 := by injection e1
      have hL : L = [] := List.eq_nil_of_length_eq_zero e2
      subst hA hc0 hL
      obtain ⟨v', w', hr, hown, hgr, _⟩ := run_append_own (P := P) w w.heap.size t ty e i z sz bytes ht hi hz hsize hby hzs hsz (.slice none 0 0) 0 [] (World.ownsRow_nil w _ e sz) a2 M.length c2 (M.flatMap enc) hlM hnews hone (by simpa using hml) (by simpa using hb) (Nat.le_refl _)
      rcases hown.2 with ⟨rfl, h0⟩ | ⟨g', cap', cur', rfl, hb', hg', hnc', hcm', hcs', htake'⟩
      · refine fin none 0 w' (by simpa [h0] using hr) ?_ hgr (fun b hb => hb.elim)
        have := ownsRow_of_block hown (w' := w') (fun _ _ => rfl)
        refine ⟨by simpa using hown.1, .inl ⟨?_, by simpa using h0⟩⟩
        simp at h0; simp [h0]
      · refine fin (some ⟨g', 0, none⟩) cap' w' (by simpa using hr) ?_ hgr (fun b hb => .inr (by have hb : g' = b := hb; omega))
        refine ⟨by simpa using hown.1, .inr ⟨g', cap', cur', by simp, Nat.zero_le _, hg', by simpa using hnc', hcm', hcs', by simpa using htake'⟩⟩
    · injection hv with hA _ hc
      subst hA hc
      have holds : ∀ j u, (L.flatMap enc)[j]? = some u → w.cell? ((⟨g, 0, none⟩ : Addr).add j) = some u := h'.cells (g := g) rfl
      obtain ⟨v', w', hr, hown, hgr, _⟩ := run_append_own (P := P) w 0 t ty e i z sz bytes ht hi hz hsize hby hzs hsz (.slice (some ⟨g, 0, none⟩) L.length c) L.length (L.flatMap enc) h' a2 M.length c2 (M.flatMap enc) hlM hnews hone hml hb (Nat.zero_le _)
      have hlL := flatMap_len hx L
      by_cases hroom : L.length + M.length ≤ c
      · subst hsize
        have hr2 := run_append_room (P := P) w t ty e i ht hi g L.length c cur hg a2 M.length c2 (M.flatMap enc) hlM hnews hone hroom (by rw [hlM, hcs, ← Nat.add_mul]; exact Nat.mul_le_mul_right _ hroom)
        rw [hr] at hr2
        injection hr2 with hv hw
        subst hv hw
        exact fin _ _ _ hr hown hgr (fun b hb => .inl hb)
      · subst hsize; subst hby
        have hsmall : L.length + M.length ≤ 9223372036854775807 := by simp only [maxLen] at hml; omega
        have hr2 := run_append_grow (P := P) w t ty e i z ht hi hz ⟨g, 0, none⟩ L.length c (L.flatMap enc) hlL holds a2 M.length c2 (M.flatMap enc) hlM hnews (by omega) (by omega) (growslice_fits (by omega) hb)
        rw [hr] at hr2
        injection hr2 with hv hw
        subst hv
        exact fin _ _ _ hr hown hgr (fun b hb => .inr (by have hb : w.heap.size = b := hb; omega))
theorem tr_append {i : TypeInfo} {bytes : Nat} {A2 : Option Addr} {c2 : Nat} {M : List α} (H : (vec A c e sz enc L).holds w) (hR : Rd w A2 sz (M.map enc)) (ho : o.op = .call { callee := .builtin .append, args := #[x, y], argTypes := #[t, t] })
    (hxv : ev l x = some (.slice A L.length c)) (hyv : ev l y = some (.slice A2 M.length c2)) (ht : P.underlying t = some (.slice e)) (hi : P.info? e = some i) (hz : i.zero = some z)
    (hsize : i.size = sz) (hby : i.bytes = bytes) (hzs : z.cells.size = sz) (hsz : 0 < sz) (hx : ∀ x, (enc x).length = sz) (h1 : ∀ x u, u ∈ enc x → u.oneCell' = true) (hb : (L.length + M.length) * bytes ≤ 140737488355328) (hml : L.length + M.length ≤ maxLen)
    (hd : o.dst = some d) (hn : Nat.blt d n = true) (hg : wants all l o = some true)
    (k : ∀ A' c' w1, Upd w (vec A c e sz enc L) (vec A' c' e sz enc (L ++ M)) w1 → TrL P n D all rest ((d, .slice A' (L ++ M).length c') :: l) w1 Q) : TrL P n D all (o :: rest) l w Q := by
  obtain ⟨A', c', w', hr, U⟩ := run_append_vec (P := P) (ty := o.type) (c2 := c2) H hR ht hi hz hsize hby hzs hsz hx h1 hb hml
  refine tr_op (w' := w') ?_ hd hn hg (k A' c' w' U)
  intro ρ k
  simp only [execOp, ho, resolve, invoke, builtin, Sem.run_bind, Sem.run_pure, Result.andThen_ok, List.map_toArray, List.map_cons, List.map_nil, k _ _ hxv, k _ _ hyv, hr]
end

/-! ### slices that are written out -/
theorem or_buildSlice0 {i : TypeInfo} (ho : o.op = .buildSlice t 0 #[]) (ht : P.underlying t = some (.slice e)) (hi : P.info? e = some i) : OpR P l w o (.value (.slice (some ⟨w.heap.size, 0, none⟩) 0 0)) (w.alloc (.cells #[] e)) := by
  intro ρ k
  simp [execOp, ho, Instr.buildSlice, run_underlying ht, sizeOf, typeInfo, hi, Instr.fill, newRow, World.alloc_eq]
  rw [Array.eq_empty_of_size_eq_zero (xs := Array.map (fun x => default) (Array.range 0)) (by simp)]
theorem tr_buildSlice0 {i : TypeInfo} (H : SH w0 F rs w) (ho : o.op = .buildSlice t 0 #[]) (ht : P.underlying t = some (.slice e)) (hi : P.info? e = some i) (hd : o.dst = some d) (hn : Nat.blt d n = true) (hg : wants all l o = some true)
    (k : ∀ b w1, w0.heap.size ≤ b → SH w0 F (blk b e [] :: rs) w1 → TrL P n D all rest ((d, .slice (some ⟨b, 0, none⟩) 0 0) :: l) w1 Q) : TrL P n D all (o :: rest) l w Q :=
  tr_op (or_buildSlice0 ho ht hi) hd hn hg (k _ _ H.size (H.add (upd_alloc w e [])))
/-- What stands in a slice that is written out: the cells as Go lays them. -/
theorem or_buildSlice {i : TypeInfo} {len : Nat} {parts : Array (Nat × Operand)} {vals : Array (Nat × Value)} {zc : Array Value} (ho : o.op = .buildSlice t len parts) (ht : P.underlying t = some (.slice e)) (hi : P.info? e = some i) (hz : i.zero = some z)
    (hv : ∀ ρ, Knows l ρ → parts.map (fun p => (p.1, ρ p.2)) = vals) (hl : len * i.size ≤ 16777216) (hl0 : ¬ len * i.size = 0)
    (hf : Instr.fill (fun k => some (k * i.size, i.size)) ((Array.range (len * i.size)).map (z.cells[· % z.cells.size]!)) vals.toList = some cs.toArray) :
    OpR P l w o (.value (.slice (some ⟨w.heap.size, 0, none⟩) len len)) (w.alloc (.cells cs.toArray e)) := by
  intro ρ k
  have hl' : ¬ (16777216 < len * i.size) := by omega
  have hl0' : ¬ (len = 0 ∨ i.size = 0) := by simpa [Nat.mul_eq_zero] using hl0
  simp only [execOp, ho, Instr.buildSlice, Sem.run_bind, run_underlying ht, Result.andThen_ok, hv ρ k]
  simp [sizeOf, typeInfo, hi, zeroValue, hz, hl', hl0', hf, newRow, World.alloc_eq]
  intro h; exact absurd h hl0
theorem tr_buildSlice {i : TypeInfo} {len : Nat} {parts : Array (Nat × Operand)} {vals : Array (Nat × Value)} (H : SH w0 F rs w) (ho : o.op = .buildSlice t len parts) (ht : P.underlying t = some (.slice e)) (hi : P.info? e = some i) (hz : i.zero = some z)
    (hv : ∀ ρ, Knows l ρ → parts.map (fun p => (p.1, ρ p.2)) = vals) (hl : len * i.size ≤ 16777216) (hl0 : ¬ len * i.size = 0)
    (hf : Instr.fill (fun k => some (k * i.size, i.size)) ((Array.range (len * i.size)).map (z.cells[· % z.cells.size]!)) vals.toList = some cs.toArray) (hd : o.dst = some d) (hn : Nat.blt d n = true) (hg : wants all l o = some true)
    (k : ∀ b w1, w0.heap.size ≤ b → SH w0 F (blk b e cs :: rs) w1 → TrL P n D all rest ((d, .slice (some ⟨b, 0, none⟩) len len) :: l) w1 Q) : TrL P n D all (o :: rest) l w Q :=
  tr_op (or_buildSlice (zc := #[]) ho ht hi hz hv hl hl0 hf) hd hn hg (k _ _ H.size (H.add (upd_alloc w e cs)))
theorem res_blkN {m : Nat} (h : (blk b e cs).holds w) (ht : (isAgg t).run P w = .ok true w) (hz : (sizeOf t).run P w = .ok m w) (hm : m = cs.length) (ha : a = ⟨b, 0, none⟩) : (loadVar t a).run P w = .ok (.agg cs.toArray) w := by
  subst hm; subst ha
  refine run_loadVarN ht hz fun j v hj => ?_
  rw [add_lit, Nat.zero_add]
  exact blk_cell h hj
theorem res_blk1 (h : (blk b e cs).holds w) (ht : (isAgg t).run P w = .ok false w) (ha : a = ⟨b, j, none⟩) (hj : cs[j]? = some v) : (loadVar t a).run P w = .ok v w := by
  subst ha
  exact run_loadVar1 ht (blk_cell h hj)

/-! ### elements that are read -/
section
variable {α : Type} {A : Option Addr} {sz : Nat} {enc : α → List Value} {L : List α} {i : Int}
theorem rd_some (hR : Rd w A sz (L.map enc)) (h0 : 0 ≤ i) (h1 : i < L.length) : A.isSome = true := hR.some_ (i := i.toNat) (by simp; omega)
theorem ov_indexAddrR {kd : IntKind} {c : Nat} (hR : Rd w A sz (L.map enc)) (ho : o.op = .indexAddr t x y) (ht : P.underlying t = some (.slice e)) (hz : (sizeOf e).run P w = .ok sz w) (hx : ev l x = some (.slice A L.length c)) (hy : ev l y = some (.int kd i)) (h0 : 0 ≤ i) (h1 : i < L.length) :
    OpV P l w o (.pointer (some ((adr A).add (i.toNat * sz)))) := ov_indexAddr ho ht hz hx hy h0 h1 (rd_some hR h0 h1)
theorem ov_indexAddrN {kd : IntKind} {c n : Nat} (hR : Rd w A sz (L.map enc)) (hn : L.length = n) (ho : o.op = .indexAddr t x y) (ht : P.underlying t = some (.slice e)) (hz : (sizeOf e).run P w = .ok sz w) (hx : ev l x = some (.slice A n c)) (hy : ev l y = some (.int kd i)) (h0 : 0 ≤ i) (h1 : i < L.length) :
    OpV P l w o (.pointer (some ((adr A).add (i.toNat * sz)))) := ov_indexAddr ho ht hz hx hy h0 (by omega) (rd_some hR h0 h1)
/-- The element at a place. -/
def gt [Inhabited α] (L : List α) (i : Int) : α := L.getD i.toNat default
theorem gt_get [Inhabited α] (h0 : 0 ≤ i) (h1 : i < L.length) : L[i.toNat]? = some (gt L i) := by
  have : i.toNat < L.length := by omega
  simp [gt, List.getD_eq_getElem?_getD, this]
theorem rd_cell [Inhabited α] (hR : Rd w A sz (L.map enc)) (h0 : 0 ≤ i) (h1 : i < L.length) {j : Nat} {u : Value} (hu : (enc (gt L i))[j]? = some u) : w.cell? (((adr A).add (i.toNat * sz)).add j) = some u :=
  hR.cell_ (by simp [gt_get h0 h1]) hu
theorem ld_agg [Inhabited α] {m : Nat} (hR : Rd w A sz (L.map enc)) (ho : o.op = .load t x) (ht : (isAgg t).run P w = .ok true w) (hz : (sizeOf t).run P w = .ok m w) (hx : ev l x = some (.pointer (some ((adr A).add (i.toNat * sz))))) (h0 : 0 ≤ i) (h1 : i < L.length)
    (hm : m = cs.length) (hc : enc (gt L i) = cs) : OpV P l w o (.agg cs.toArray) := by
  subst hm; subst hc
  exact ov_loadN ho ht hz hx fun j v hj => rd_cell hR h0 h1 hj
theorem ld_cell [Inhabited α] {f : Nat} (hR : Rd w A sz (L.map enc)) (ho : o.op = .load t x) (ht : (isAgg t).run P w = .ok false w) (hx : ev l x = some (.pointer (some (((adr A).add (i.toNat * sz)).add f)))) (h0 : 0 ≤ i) (h1 : i < L.length)
    (hv : (enc (gt L i))[f]? = some v) : OpV P l w o v := ov_load1 ho ht hx (rd_cell hR h0 h1 hv)
theorem ld_cell0 [Inhabited α] (hR : Rd w A sz (L.map enc)) (ho : o.op = .load t x) (ht : (isAgg t).run P w = .ok false w) (hx : ev l x = some (.pointer (some ((adr A).add (i.toNat * sz))))) (h0 : 0 ≤ i) (h1 : i < L.length)
    (hv : (enc (gt L i))[0]? = some v) : OpV P l w o v := ld_cell (f := 0) hR ho ht hx h0 h1 hv
end
theorem bs1 {ρ : Operand → Value} (k : Knows l ρ) {i : Nat} {x : Operand} {v : Value} (h : ev l x = some v) : #[(i, x)].map (fun p => (p.1, ρ p.2)) = #[(i, v)] := by simp [k _ _ h]
theorem bs2 {ρ : Operand → Value} (k : Knows l ρ) {i j : Nat} {x y : Operand} {v u : Value} (h : ev l x = some v) (h' : ev l y = some u) : #[(i, x), (j, y)].map (fun p => (p.1, ρ p.2)) = #[(i, v), (j, u)] := by simp [k _ _ h, k _ _ h']
theorem bs3 {ρ : Operand → Value} (k : Knows l ρ) {i j m : Nat} {x y z : Operand} {v u r : Value} (h : ev l x = some v) (h' : ev l y = some u) (h'' : ev l z = some r) : #[(i, x), (j, y), (m, z)].map (fun p => (p.1, ρ p.2)) = #[(i, v), (j, u), (m, r)] := by simp [k _ _ h, k _ _ h', k _ _ h'']
theorem rd_blk {α : Type} {sz : Nat} {enc : α → List Value} (L : List α) (h : (blk b e cs).holds w) (hc : cs = L.flatMap enc) (hx : ∀ x, (enc x).length = sz) : Rd w (some ⟨b, 0, none⟩) sz (L.map enc) := by
  refine ⟨fun _ => rfl, fun i j c u hi hu => ?_⟩
  have hf := flatten_get (L.map enc) i j c u (by simp; intro a _; exact hx a) hi hu
  rw [← List.flatMap_def, ← hc] at hf
  show w.cell? ((⟨b, 0, none⟩ : Addr).add (i * sz + j)) = some u
  rw [add_lit, Nat.zero_add]
  exact blk_cell h hf
theorem rd_none {α : Type} {sz : Nat} {enc : α → List Value} {A : Option Addr} {L : List α} (hR : Rd w A sz (L.map enc)) (h : A.isNone = true) : L = [] := by
  cases L with
  | nil => rfl
  | cons x xs => have := hR.1 (by simp); cases A <;> simp_all
theorem rdr_loc {A : Option Addr} {sz : Nat} {xs : List (List Value)} {w w' : World} (h : ∀ b, inRow A b → w'.heap[b]? = w.heap[b]?) (hw : Rd w A sz xs ∧ ∀ a, A = some a → a.block < w.heap.size) : Rd w' A sz xs ∧ ∀ a, A = some a → a.block < w'.heap.size := by
  cases A with
  | none =>
    have : xs = [] := by
      cases xs with
      | nil => rfl
      | cons x xs => have := hw.1.1 (by simp); cases this
    subst this
    exact ⟨Rd.nil, fun a ha => by cases ha⟩
  | some a =>
    have hb := h a.block rfl
    refine ⟨hw.1.mono fun p v hp hc => (World.cell?_of_block (w := w) (h p.block hp.symm)).trans hc, fun a' ha => ?_⟩
    injection ha with ha
    subst ha
    have hlt := hw.2 a rfl
    rcases Nat.lt_or_ge a.block w'.heap.size with h' | h'
    · exact h'
    · rw [Array.getElem?_eq_none h', Array.getElem?_eq_getElem hlt] at hb; cases hb
/-- A slice that is only read. -/
def rdr (A : Option Addr) (sz : Nat) (xs : List (List Value)) : Res :=
  ⟨inRow A, fun w => Rd w A sz xs ∧ ∀ a, A = some a → a.block < w.heap.size, fun w w' h hw => rdr_loc h hw, fun w b hw hb => by
    cases A with
    | none => exact hb.elim
    | some a => have := hw.2 a rfl; have hb : a.block = b := hb; omega⟩
theorem rdr_rd {A : Option Addr} {sz : Nat} {xs : List (List Value)} (h : (rdr A sz xs).holds w) : Rd w A sz xs := h.1
theorem upd_rdr_of_vec {α : Type} {A : Option Addr} {c : Nat} {sz : Nat} {enc : α → List Value} {L : List α} (h : (vec A c e sz enc L).holds w) (hx : ∀ x, (enc x).length = sz) (hsz : 0 < sz) : Upd w (vec A c e sz enc L) (rdr A sz (L.map enc)) w :=
  upd_conv w h (fun h => ⟨vec_rd h hx hsz, fun a ha => by subst ha; exact (vec (some a) c e sz enc L).inside w a.block h rfl⟩) fun _ hb => hb
theorem ov_build {parts : Array (Nat × Operand)} {vals : Array (Nat × Value)} (ho : o.op = .build t parts) (hv : ∀ ρ, Knows l ρ → parts.map (fun p => (p.1, ρ p.2)) = vals) (hr : (Instr.build t vals).run P w = .ok v w) : OpV P l w o v := by
  intro ρ k
  simp only [execOp, ho, hv ρ k, Sem.run_bind, hr, Result.andThen_ok, Sem.run_pure]
theorem bs0 {ρ : Operand → Value} (k : Knows l ρ) : (#[] : Array (Nat × Operand)).map (fun p => (p.1, ρ p.2)) = #[] := by simp
theorem bs4 {ρ : Operand → Value} (k : Knows l ρ) {i j m q : Nat} {x y z x' : Operand} {v u r s : Value} (h : ev l x = some v) (h' : ev l y = some u) (h'' : ev l z = some r) (h3 : ev l x' = some s) : #[(i, x), (j, y), (m, z), (q, x')].map (fun p => (p.1, ρ p.2)) = #[(i, v), (j, u), (m, r), (q, s)] := by simp [k _ _ h, k _ _ h', k _ _ h'', k _ _ h3]
theorem Rd.drop_ {A : Option Addr} {sz n c k : Nat} {xs : List (List Value)} (h : Rd w A sz xs) (hn : xs.length ≤ c) : Rd w (if c = k then A else A.map (·.add (k * sz))) sz (xs.drop k) := by
  by_cases hk : c = k
  · rw [if_pos hk, List.drop_eq_nil_of_le (by omega)]
    exact Rd.nil
  · rw [if_neg hk]
    refine ⟨fun hne => ?_, fun i j cc u hi hu => ?_⟩
    · have : xs ≠ [] := by intro e; subst e; simp at hne
      have := h.1 this
      cases A <;> simp_all
    · rw [List.getElem?_drop] at hi
      have h2 := h.2 (k + i) j cc u hi hu
      have hs := h.some_ (i := k + i) (by rcases Nat.lt_or_ge (k + i) xs.length with h' | h'; exact h'; rw [List.getElem?_eq_none h'] at hi; cases hi)
      cases A with
      | none => cases hs
      | some a =>
        show w.cell? ((a.add (k * sz)).add (i * sz + j)) = some u
        rw [add_add, show k * sz + (i * sz + j) = (k + i) * sz + j by rw [Nat.add_mul]; omega]
        exact h2
theorem Rd.take_ {A : Option Addr} {sz k : Nat} {xs : List (List Value)} (h : Rd w A sz xs) : Rd w A sz (xs.take k) := by
  refine ⟨fun hne => h.1 (by intro e; subst e; simp at hne), fun i j cc u hi hu => ?_⟩
  rw [List.getElem?_take] at hi
  split at hi
  · exact h.2 i j cc u hi hu
  · cases hi
theorem upd_rdr_drop {A : Option Addr} {sz c k : Nat} {xs : List (List Value)} (h : (rdr A sz xs).holds w) (hn : xs.length ≤ c) : Upd w (rdr A sz xs) (rdr (if c = k then A else A.map (·.add (k * sz))) sz (xs.drop k)) w := by
  refine upd_conv w h (fun h => ⟨Rd.drop_ (n := 0) h.1 hn, fun a ha => ?_⟩) fun b hb => ?_
  · split at ha
    · exact h.2 a ha
    · cases A with
      | none => cases ha
      | some a' => injection ha with ha; subst ha; rw [add_block]; exact h.2 a' rfl
  · show inRow A b
    have hb : inRow (if c = k then A else A.map (·.add (k * sz))) b := hb
    split at hb
    · exact hb
    · cases A with
      | none => exact hb
      | some a' => have hb : (a'.add (k * sz)).block = b := hb; rw [add_block] at hb; exact hb
theorem upd_rdr_take {A : Option Addr} {sz k : Nat} {xs : List (List Value)} (h : (rdr A sz xs).holds w) : Upd w (rdr A sz xs) (rdr A sz (xs.take k)) w :=
  upd_conv w h (fun h => ⟨h.1.take_, h.2⟩) fun b hb => hb
end
end Go.Proofs.Ytblipnjjgbggiaa
