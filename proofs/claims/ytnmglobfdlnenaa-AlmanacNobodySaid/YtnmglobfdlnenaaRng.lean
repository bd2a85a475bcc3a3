/- A range over a function: the loop's statement, its rounds, the iterator's calls of yield. Conditions: none. -/
import Derived.RangeFuncLeaves
import Derived.RangeFuncRecord
import Derived.RangeFuncCalls
import Derived.TacticsIn
import Derived.Test.YtnmglobfdlnenaaLst
namespace Go.Proofs.Ytnmglobfdlnenaa
open Go Go.RowKit
set_option linter.unusedVariables false
set_option linter.unusedSectionVars false
set_option linter.unusedSimpArgs false
section
variable {w w' w0 : World} {F : Nat → Prop} {rs rs' : List Res} {b : Nat} {o o' : Obj}
/-- A block that is no cells. -/
def objR (b : Nat) (o : Obj) : Res :=
  ⟨fun x => x = b, fun w => w.heap[b]? = some o, fun w w' h hw => (h b rfl).trans hw, fun w x h hx => by
    have hx : x = b := hx
    subst hx
    rcases Nat.lt_or_ge x w.heap.size with hlt | hge
    · exact hlt
    · rw [Array.getElem?_eq_none hge] at h; cases h⟩
theorem upd_putObj (o' : Obj) (h : (objR b o).holds w) : Upd w (objR b o) (objR b o') (w.putObj b o') := by
  have hb := (objR b o).inside w b h rfl
  exact ⟨rfl, rfl, rfl, by simp, fun x hx hne => World.putObj_heap_other hne, World.putObj_heap_same hb, fun x hx => .inl hx⟩
theorem upd_allocObj (w : World) (o : Obj) : Upd w emp (objR w.heap.size o) (w.alloc o) :=
  ⟨rfl, rfl, rfl, by simp, fun b hb _ => Below.heap_alloc w _ b hb, heap_alloc_new w _, fun b hb => .inr (by have hb : b = w.heap.size := hb; omega)⟩
theorem Own.left {rs : List Res} (r : List Res) (h : Own (rs ++ r) w) : Own rs w := ⟨fun s hs => h.1 s (List.mem_append_left _ hs), (List.pairwise_append.mp h.2).1⟩
end
section
variable {P : Program} {n : Nat} {D : List Deferred} {Q : Exit → Act → World → Prop} {w w' w0 : World} {F : Nat → Prop} {rs : List Res} {l l' : List (Nat × Value)} {all : Array Oper} {ops rest : List Oper} {o : Oper} {d : Nat} {v : Value} {r : Nat}
/-! ### code in a round's frame -/
def TrI (r : Nat) (P : Program) (n : Nat) (D : List Deferred) (c : Code) (l : List (Nat × Value)) (w : World) (Q : Exit → Act → World → Prop) : Prop :=
  ∀ a, Fr a n D l → c.wpIn (Fence.wide.inRound r) 0 P Q a w
theorem TrI.sub {c : Code} (s : Sub l' l) (h : TrI r P n D c l' w Q) : TrI r P n D c l w Q := fun a ha => h a (ha.sub s)
theorem TrI.keep {c : Code} (ts : List Nat) (h : TrI r P n D c (sel ts l) w Q) : TrI r P n D c l w Q := h.sub (Sub.sel ts l)
theorem ti_seq {x y : Code} (h : ∀ K : Act → World → Prop, (∀ l w, TrI r P n D y l w Q → TrK n D K l w) → TrI r P n D x l w (Exit.then K Q)) : TrI r P n D (.seq x y) l w Q :=
  fun a ha => wpIn_seq (h _ (fun _ _ hy a ha => hy a ha) a ha)
theorem ti_block {id : Nat} {c : Code} (h : TrI r P n D c l w (Exit.inBlock id Q)) : TrI r P n D (.block id c) l w Q := fun a ha => wpIn_block (h a ha)
theorem ti_skip (h : TrK n D (Q .normal) l w) : TrI r P n D .skip l w Q := fun a ha => wpIn_skip (h a ha)
theorem ti_exit {id : Nat} (h : TrK n D (Q (.exit id)) l w) : TrI r P n D (.exit id) l w Q := fun a ha => wpIn_exit (h a ha)
theorem ti_ret (h : TrK n D (Q .ret) l w) : TrI r P n D .ret l w Q := fun a ha => wpIn_ret (h a ha)
theorem ti_cond {c : Operand} {x y : Code} {p : Prop} [Decidable p] (e : ev l c = some (.bool (decide p))) (ht : p → TrI r P n D x l w Q) (hf : ¬ p → TrI r P n D y l w Q) : TrI r P n D (.cond c x y) l w Q :=
  fun a ha => wpIn_cond_split (ha.knows _ _ e) (fun h => ht (of_decide_eq_true h) a ha) (fun h => hf (of_decide_eq_false h) a ha)
theorem ti_condb {c : Operand} {x y : Code} {b : Bool} (e : ev l c = some (.bool b)) (ht : b = true → TrI r P n D x l w Q) (hf : b = false → TrI r P n D y l w Q) : TrI r P n D (.cond c x y) l w Q :=
  fun a ha => wpIn_cond_split (ha.knows _ _ e) (fun h => ht h a ha) (fun h => hf h a ha)
theorem list_in {F' : Fence} (hF : F' = Fence.wide ∨ ∃ r, F' = Fence.wide.inRound r) (hQ : ¬ LetsOut Q) : ∀ (ops : List Oper) (a : Act) (w : World), (∀ o, o ∈ ops → ∀ c, o.op ≠ .defer c) → wpList P all Q ops a w → wpListIn F' 0 P all Q ops a w
  | [], a, w, _, h => h
  | o :: ops, a, w, hnd, h => by
    have ih := fun a w => list_in hF hQ ops a w (fun o ho => hnd o (by simp [ho]))
    have hfn : ∀ f, F'.fn f := by intro f; rcases hF with rfl | ⟨r, rfl⟩ <;> trivial
    have hdep : F'.depth.isSome = true → 1 ≤ 0 := by intro h; rcases hF with rfl | ⟨r, rfl⟩ <;> simp [Fence.wide] at h
    have hsem : o.semAt F'.round a.eval = execOp a.eval o := Oper.semAt_eq _ _ _ (hnd o (by simp))
    have hcalls : ∀ {f : FuncId} {args : Array Value} {w : World} {R : Ending → World → Prop}, Calls P f args w R → CallsIn F' (0 - 1) P f args w R := by
      intro f args w R hc
      rcases hF with rfl | ⟨r, rfl⟩
      · exact callsIn_wide.2 hc
      · exact CallsIn.inRound r (callsIn_wide.2 hc)
    have hrows : ∀ {row : String} {args : Array Value} {w : World} {R : Value → World → Prop}, Rows P row args w R → RowsIn F' (0 - 1) P row args w R := by
      intro row args w R hc c cs _
      obtain ⟨v, w', r, s⟩ := hc c cs
      refine ⟨v, w', r, ?_⟩
      rcases hF with rfl | ⟨r, rfl⟩
      · exact stepsIn_wide.2 s
      · exact stepsIn_wide.2 s
    unfold wpList at h
    unfold wpListIn
    split
    · rename_i hw
      rw [if_pos hw] at h
      rcases h with h | ⟨_, h⟩
      · refine ⟨fun f _ => hfn f, ?_⟩
        rw [hsem]
        unfold Oper.wp at h
        cases hr : (execOp a.eval o).run P w with
        | ok nx w' =>
          rw [hr] at h
          cases nx with
          | value v => exact ih _ _ h
          | skip => exact ih _ _ h
          | defer d => exact ih _ _ h
          | enter f args =>
            refine ⟨hdep, hcalls (Calls.mono h fun e w' q => ?_)⟩
            cases e with
            | returned v => exact ih _ _ q
            | panicked c => exact q
            | outgrown => exact q
          | row row args => exact ⟨hdep, hrows (Rows.mono h fun v w' q => ih _ _ q)⟩
          | _ => exact (show False from h).elim
        | halt hx w' =>
          rw [hr] at h
          cases hx with
          | panic v => exact h
          | _ => exact (show False from h).elim
      · exact absurd h hQ
    · rename_i hw
      rw [if_neg hw] at h
      exact ⟨fun f _ => hfn f, ih _ _ h⟩
def noDefer (o : Oper) : Bool := match o.op with
  | .defer _ => false
  | _ => true
theorem noDefer_of {ops : List Oper} (h : ops.all noDefer = true) : ∀ o, o ∈ ops → ∀ c, o.op ≠ .defer c := by
  intro o ho c e
  have := List.all_eq_true.mp h o ho
  simp [noDefer, e] at this
theorem ti_region {id : Nat} (hnd : ops.all noDefer = true) (hQ : LetsOut Q → False) (h : TrL P n D ops.toArray ops l w Q) : TrI r P n D (.region id ops.toArray false) l w Q :=
  fun a ha => wpIn_region_lit (list_in (.inr ⟨r, rfl⟩) hQ ops a w (noDefer_of hnd) (h a ha))

/-! ### a region that calls yield -/
def Yields (P : Program) (r : Nat) (v : Value) (w : World) (R : Value → World → Prop) : Prop :=
  ∃ fn tmps assign body, (Instr.yield r #[v]).run P w = .ok (.round r fn tmps assign body) w ∧ RoundIn Fence.wide 0 P r fn tmps assign body w (Ret R)
def TrY (P : Program) (n : Nat) (D : List Deferred) (all : Array Oper) (ops : List Oper) (l : List (Nat × Value)) (w : World) (Q : Exit → Act → World → Prop) : Prop :=
  ∀ a, Fr a n D l → wpListIn Fence.wide 0 P all Q ops a w
theorem TrY.sub (s : Sub l' l) (h : TrY P n D all ops l' w Q) : TrY P n D all ops l w Q := fun a ha => h a (ha.sub s)
theorem ty_val (h : OpV P l w o v) (hd : o.dst = some d) (hn : Nat.blt d n = true) (hg : wants all l o = some true) (k : TrY P n D all rest ((d, v) :: l) w Q) : TrY P n D all (o :: rest) l w Q := by
  intro a ha
  unfold wpListIn
  rw [if_pos (wanted_of ha hg)]
  refine ⟨fun _ _ => trivial, ?_⟩
  show o.uponIn _ _ _ _ _ _ ((o.semAt none a.eval).run P w)
  rw [Oper.semAt_none, h _ ha.knows]
  show wpListIn _ _ _ _ _ _ (a.put o.dst v) w
  rw [hd]
  exact k _ (ha.put hn v)
theorem ty_pass (hd : o.dst = some d) (hn : Nat.blt d n = true) (hg : wants all l o = some false) (k : TrY P n D all rest ((d, undef) :: l) w Q) : TrY P n D all (o :: rest) l w Q := by
  intro a ha
  unfold wpListIn
  rw [if_neg (by rw [wanted_of ha hg]; decide), hd]
  exact ⟨fun _ _ => trivial, k _ (ha.put hn undef)⟩
theorem ty_split {t : Nat} {p : Prop} [Decidable p] (e : look l t = some (.bool (decide p))) (ht : p → TrY P n D all ops ((t, .bool true) :: l) w Q) (hf : ¬ p → TrY P n D all ops ((t, .bool false) :: l) w Q) : TrY P n D all ops l w Q := by
  by_cases hp : p
  · exact TrY.sub (Sub.cons (by rw [e, decide_eq_true hp]) (Sub.refl l)) (ht hp)
  · exact TrY.sub (Sub.cons (by rw [e, decide_eq_false hp]) (Sub.refl l)) (hf hp)
theorem ty_nil (h : TrK n D (Q .normal) l w) : TrY P n D all [] l w Q := fun a ha => h a ha
theorem or_yield {fx x : Operand} {ats : Array TypeId} {u : Value} {v' : Next} (hy : (Instr.yield r #[u]).run P w = .ok v' w) (ho : o.op = .call { callee := .value fx, args := #[x], argTypes := ats }) (hfx : ev l fx = some (.func (.yield r) #[] #[])) (hx : ev l x = some u) : OpR P l w o v' w := by
  intro ρ k
  simp [execOp, ho, resolve, k _ _ hfx, k _ _ hx, Deferred.ofValue, invoke, hy]
theorem ty_yield {fx x : Operand} {ats : Array TypeId} {u : Value} {R : Value → World → Prop} (hy : Yields P r u w R) (ho : o.op = .call { callee := .value fx, args := #[x], argTypes := ats }) (hfx : ev l fx = some (.func (.yield r) #[] #[])) (hx : ev l x = some u)
    (hd : o.dst = some d) (hn : Nat.blt d n = true) (hg : wants all l o = some true) (k : ∀ v w', R v w' → TrY P n D all rest ((d, v) :: l) w' Q) : TrY P n D all (o :: rest) l w Q := by
  intro a ha
  obtain ⟨fn, tmps, assign, body, hrun, hround⟩ := hy
  unfold wpListIn
  rw [if_pos (wanted_of ha hg)]
  refine ⟨fun _ _ => trivial, ?_⟩
  show o.uponIn _ _ _ _ _ _ ((o.semAt none a.eval).run P w)
  rw [Oper.semAt_none, or_yield hrun ho hfx hx _ ha.knows]
  refine ⟨fun h => by simp [Fence.wide] at h, hround.mono fun e w' q => ?_⟩
  cases e with
  | returned v => rw [hd]; exact k v w' q _ (ha.put hn v)
  | panicked c => exact q.elim
  | outgrown => exact q.elim
theorem tr_regionY {id : Nat} (h : TrY P n D ops.toArray ops l w Q) : TrC P n D (.region id ops.toArray false) l w Q := fun a ha => wpIn_wide.1 (wpIn_region_lit (n := 0) (h a ha))

/-! ### the loop -/
theorem yields_of {rc : Loop} {t : Nat} {u : Value} {R : Value → World → Prop} (hr : w.heap[r]? = some (.loop rc)) (hp : rc.params = #[t]) (hfr : Fr { tmps := rc.tmps, defers := [] } n [] l) (ht : Nat.blt t n = true)
    (h : TrI r P n [] rc.assign ((t, u) :: l) w (Exit.then (fun a₁ w₁ => ∃ w₂, (Instr.beginRound r).run P w₁ = .ok () w₂ ∧ rc.body.wpIn (Fence.wide.inRound r) 0 P (roundPost P r (Ret R)) a₁ w₂) (fun _ _ _ => False))) : Yields P r u w R := by
  refine ⟨rc.fn, _, rc.assign, rc.body, run_yield hr (by simp [hp]), roundIn_of_wpIn trivial (h _ ?_)⟩
  have := hfr.put ht u
  simpa [hp, Act.put] using this
def mark (b : Nat) : Deferred := { target := .collected b, args := #[] }
/-- A loop over an iterator whose rounds all go on. What the rounds own: J; the loop's variable lies in a block of its own. -/
theorem tr_rangeFunc {α : Type} {g : Operand} {t e : Nat} {assign body : Code} {f : FuncId} {caps : List Value} {own rsB : List Res} {encV : α → Value} {encC : α → List Value} {J : List α → List Res → Prop} {Ok : List α → α → Prop} {xs : List α}
    (H : SH w0 F (own ++ rsB) w) (hJ : J [] rsB) (hg : ev l g = some (.func (.func f) #[] caps.toArray)) (hcf : ∀ ys w, (callFunc f ys).run P w = .ok (.enter f ys) w) (ht : Nat.blt t n = true)
    (hc : ∀ (r : Nat) (JJ : List α → List Res → Prop) (rs0 : List Res) (w1 : World), Own (own ++ rs0) w1 → JJ [] rs0 → (∀ pre x rs1 w2, JJ pre rs1 → Ok pre x → Own rs1 w2 → Yields P r (encV x) w2 (fun v w3 => v = .bool true ∧ ∃ rs2, JJ (pre ++ [x]) rs2 ∧ SH w2 (footAll rs1) rs2 w3)) →
      Does P f ([Value.func (.yield r) #[] #[]] ++ caps).toArray w1 (fun v w3 => ∃ rs2, JJ xs rs2 ∧ SH w1 (footAll (own ++ rs0)) (own ++ rs2) w3))
    (hassign : ∀ r x rs1 w1, Own rs1 w1 → ∀ K : Act → World → Prop, (∀ b w2, SH w1 (footAll rs1) (blk b e (encC x) :: rs1) w2 → TrK n [] K ((d, .pointer (some ⟨b, 0, none⟩)) :: (t, encV x) :: l) w2) → TrI r P n [] assign ((t, encV x) :: l) w1 (Exit.then K fun _ _ _ => False))
    (hbody : ∀ r pre x b rs1 w1, J pre rs1 → Ok pre x → Own (blk b e (encC x) :: rs1) w1 → ∀ K : Act → World → Prop, (∀ l' w2 rs2, J (pre ++ [x]) rs2 → SH w1 (footAll (blk b e (encC x) :: rs1)) rs2 w2 → TrK n [] K l' w2) →
      TrI r P n [] body ((d, .pointer (some ⟨b, 0, none⟩)) :: (t, encV x) :: l) w1 (Exit.then K fun _ _ _ => False))
    (k : ∀ (m : Nat) w2 rs2, J xs rs2 → SH w0 F (objR m (.deferred (some [])) :: (own ++ rs2)) w2 → TrK n [mark m] (Q .normal) l w2) : TrC P n [] (.rangeFunc g #[t] assign body) l w Q := by
  intro a ha
  refine (wpIn_wide (n := 0)).1 (wpIn_rangeFunc fun fn _ => ?_)
  have hev := ha.knows _ _ hg
  let rc : Loop := { state := .ready, pending := none, fn, tmps := a.tmps, params := #[t], assign, body, defers := w.heap.size }
  let w1 := w.alloc (.deferred (some []))
  have hs1 : w1.heap.size = w.heap.size + 1 := by simp [w1]
  have U1 : Upd w emp (objR w.heap.size (.deferred (some []))) w1 := upd_allocObj w _
  have U2 : Upd w1 emp (objR (w.heap.size + 1) (.loop rc)) (w1.alloc (.loop rc)) := by
    have := upd_allocObj w1 (.loop rc)
    rw [hs1] at this; exact this
  have H2 : SH w0 F (own ++ (rsB ++ [objR (w.heap.size + 1) (.loop rc)]) ++ [objR w.heap.size (.deferred (some []))]) (w1.alloc (.loop rc)) := by
    refine ((H.add U1).add U2).perm ?_
    have p : List.Perm ([objR (w.heap.size + 1) (.loop rc), objR w.heap.size (.deferred (some []))] ++ (own ++ rsB)) ((own ++ rsB) ++ [objR (w.heap.size + 1) (.loop rc), objR w.heap.size (.deferred (some []))]) := List.perm_append_comm
    simpa using p
  let JJ : List α → List Res → Prop := fun pre rs => ∃ rs', rs = rs' ++ [objR (w.heap.size + 1) (.loop rc)] ∧ J pre rs'
  have hfr : Fr { tmps := rc.tmps, defers := [] } n [] l := ⟨ha.size, rfl, ha.has⟩
  have hcall := hc (w.heap.size + 1) JJ (rsB ++ [objR (w.heap.size + 1) (.loop rc)]) (w1.alloc (.loop rc)) (H2.own_ _) ⟨rsB, rfl, hJ⟩ (by
    rintro pre x rs1 w2 ⟨rs1', rfl, hJ1⟩ hok hO
    refine yields_of (rc := rc) (l := l) (t := t) ((SH.ofOwn hO).get rs1') rfl hfr ht ?_
    refine hassign _ x rs1' w2 (hO.left _) _ (fun b wA C => ?_)
    intro a1 ha1
    have HA := SH.callP (rs := [objR (w.heap.size + 1) (.loop rc)]) (SH.ofOwn hO) C
    have hrec := HA.get (blk b e (encC x) :: rs1')
    have UB := upd_putObj (.loop { rc with state := .busy }) hrec
    have HB := HA.upd (blk b e (encC x) :: rs1') UB
    refine ⟨_, run_beginRound (r := rc) hrec rfl, ?_⟩
    refine wpIn_mono (hbody (w.heap.size + 1) pre x b rs1' _ hJ1 hok (HB.own_ (blk b e (encC x) :: rs1')) (fun a2 w3 => ∃ v w4, (Instr.endRound (w.heap.size + 1) none).run P w3 = .ok v w4 ∧ Ret (fun v w3 => v = .bool true ∧ ∃ rs2, JJ (pre ++ [x]) rs2 ∧ SH w2 (footAll (rs1' ++ [objR (w.heap.size + 1) (.loop rc)])) rs2 w3) (.returned v) w4) (fun l' w3 rs2 hJ2 C2 => ?_) a1 ha1) ?_
    · intro a2 _
      have HC := SH.callP (rs := [objR (w.heap.size + 1) (.loop { rc with state := .busy })]) HB C2
      have hrec2 := HC.get rs2
      have UC := upd_putObj (.loop rc) hrec2
      have HD := HC.upd rs2 UC
      exact ⟨_, _, run_endRound none hrec2, rfl, _, ⟨rs2, rfl, hJ2⟩, HD⟩
    · intro e a w h
      cases e with
      | normal => exact h
      | _ => exact (show False from h).elim)
  refine ⟨w.heap.size + 1, [mark w.heap.size], w1.alloc (.loop rc), ⟨.fn (.func f) caps.toArray, #[Value.func (.yield (w.heap.size + 1)) #[] #[]]⟩, w1.alloc (.loop rc), f, ([Value.func (.yield (w.heap.size + 1)) #[] #[]] ++ caps).toArray, w1.alloc (.loop rc), run_enterLoop_outer fn a.tmps #[t] assign body, ?_, fun _ _ => trivial, ?_, fun h => by simp [Fence.wide] at h, callsIn_wide.2 (hcall.out.mono fun e w3 q => ?_)⟩
  · have hk : ∀ v, a.eval (.const v) = v := fun _ => rfl
    simp [resolve, hev, hk, Deferred.ofValue]
  · simp [invoke, hcf]
  · cases e with
    | returned v =>
      obtain ⟨rs2, ⟨rs2', rfl, hJ2⟩, C⟩ := q
      have H3 := SH.callP (rs := [objR w.heap.size (.deferred (some []))]) H2 C
      have e1 : own ++ (rs2' ++ [objR (w.heap.size + 1) (.loop rc)]) ++ [objR w.heap.size (.deferred (some []))] = (own ++ rs2') ++ objR (w.heap.size + 1) (.loop rc) :: [objR w.heap.size (.deferred (some []))] := by simp
      rw [e1] at H3
      have hrec := H3.get (own ++ rs2')
      have H4 := H3.upd (own ++ rs2') (upd_putObj (.loop { rc with state := .exhausted }) hrec)
      refine ⟨none, _, run_endLoop (r := rc) hrec (by simp [rc]), ?_⟩
      have H5 := (H4.drop (own ++ rs2')).top (own ++ rs2')
      rw [List.append_nil] at H5
      refine k _ _ rs2' hJ2 H5 _ ⟨ha.size, ?_, ha.has⟩
      show [mark w.heap.size] ++ a.defers = _
      rw [ha.dfs]; rfl
    | panicked c => exact q.elim
    | outgrown => exact q.elim

/-! ### a function that holds such a loop -/
theorem does_enter_m {f : FuncId} {fn : Func} {c : Code} {args : List Value} {R : Value → World → Prop} (hf : P.funcs[f]? = some fn) (hb : fn.body = some c) (hn : fn.ntmps = n) (hl : Nat.ble args.length n = true)
    (h : TrC P n [] c (number 0 args) w (bodyPostM Fence.wide 0 P fn (Ret R))) : Does P f args.toArray w R := by
  refine ⟨(callsIn_wide (n := 0)).1 (callsIn_of_wp_marks hf hb trivial (wpIn_wide.2 ?_))⟩
  rw [hn]
  exact h _ (Fr.enter args n (Nat.ble_eq.mp hl))
theorem does_enterM3 {f : FuncId} {fn : Func} {c : Code} {v0 v1 v2 : Value} {R : Value → World → Prop} (hf : P.funcs[f]? = some fn) (hb : fn.body = some c) (hn : fn.ntmps = n) (hl : Nat.ble 3 n = true)
    (h : TrC P n [] c [(0, v0), (1, v1), (2, v2)] w (bodyPostM Fence.wide 0 P fn (Ret R))) : Does P f #[v0, v1, v2] w R := does_enter_m (args := [v0, v1, v2]) hf hb hn hl h
theorem post_m2 {fn : Func} {R : Value → World → Prop} {e : Exit} {x s : ResultVar} {v u : Value} (he : e = .normal ∨ e = .ret) (hr : fn.results = #[x, s]) (h1 : Res1 P l w x v) (h2 : Res1 P l w s u) (h : R (.tuple #[v, u]) w) :
    TrK n [] (bodyPostM Fence.wide 0 P fn (Ret R) e) l w := by
  intro a ha
  have q := post_ret2 (P := P) (n := n) (l := l) (w := w) (R := R) he hr h1 h2 h a ha
  rcases he with rfl | rfl <;> (obtain ⟨hd, q⟩ := q; show LeavesInM _ _ _ _ _ _ a.defers _ _; rw [hd]; exact q)
theorem post_m2m {fn : Func} {R : Value → World → Prop} {e : Exit} {x s : ResultVar} {v u : Value} {m : Nat} (H : SH w0 F (objR m (.deferred (some [])) :: rs) w) (he : e = .normal ∨ e = .ret) (hr : fn.results = #[x, s])
    (h : ∀ w', SH w0 F rs w' → Res1 P l w' x v ∧ Res1 P l w' s u ∧ R (.tuple #[v, u]) w') : TrK n [mark m] (bodyPostM Fence.wide 0 P fn (Ret R) e) l w := by
  intro a ha
  have hm := H.get0
  have H2 := (H.upd0 (upd_putObj (.deferred none) hm)).drop0
  obtain ⟨h1, h2, h3⟩ := h _ H2
  have q := post_ret2 (P := P) (n := n) (l := l) (R := R) he hr h1 h2 h3 { a with defers := [] } ⟨ha.size, rfl, ha.has⟩
  have key : LeavesInM Fence.wide 0 P fn a.tmps (Ret R) a.defers .returning w := by
    rw [ha.dfs]
    refine ⟨by simp, .inl ⟨m, _, rfl, run_takeDeferred hm, ?_⟩⟩
    rcases he with rfl | rfl <;> exact q.2
  rcases he with rfl | rfl <;> exact key
/-- What stands deferred behind x is x's own word. -/
theorem tr_seqD {x y : Code} (h : ∀ K : Act → World → Prop, (∀ D' l w, TrC P n D' y l w Q → TrK n D' K l w) → TrC P n D x l w (Exit.then K Q)) : TrC P n D (.seq x y) l w Q :=
  fun a ha => wp_seq (h (y.wp P Q) (fun _ _ _ hy a ha => hy a ha) a ha)
end
end Go.Proofs.Ytnmglobfdlnenaa
