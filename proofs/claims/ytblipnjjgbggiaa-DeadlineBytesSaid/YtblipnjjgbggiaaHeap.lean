/- A heap told as a list of owned resources beside what stood before. Conditions: none. -/
import Derived.Test.YtblipnjjgbggiaaOps
namespace Go.Proofs.Ytblipnjjgbggiaa
open Go Go.RowKit
set_option linter.unusedVariables false
set_option linter.unusedSectionVars false
set_option linter.unusedSimpArgs false

/-- Something that the call owns: the blocks that it lies in, what it says of a world; it hangs on these blocks alone. -/
structure Res where
  foot : Nat → Prop
  holds : World → Prop
  loc : ∀ w w' : World, (∀ b, foot b → w'.heap[b]? = w.heap[b]?) → holds w → holds w'
  inside : ∀ (w : World) (b : Nat), holds w → foot b → b < w.heap.size

/-- From w0 on, in the blocks of F and in new ones alone: all else is as it was; and the resources are there, apart from each other. -/
structure SH (w0 : World) (F : Nat → Prop) (rs : List Res) (w : World) : Prop where
  os : w.os = w0.os
  tape : w.tape = w0.tape
  output : w.output = w0.output
  size : w0.heap.size ≤ w.heap.size
  keep : ∀ b, b < w0.heap.size → ¬ F b → w.heap[b]? = w0.heap[b]?
  hold : ∀ r, r ∈ rs → r.holds w
  own : ∀ r, r ∈ rs → ∀ b, r.foot b → F b ∨ w0.heap.size ≤ b
  disj : rs.Pairwise fun r s => ∀ b, r.foot b → ¬ s.foot b

/-- One resource turns into another: nothing else is touched. -/
structure Upd (w : World) (r r' : Res) (w' : World) : Prop where
  os : w'.os = w.os
  tape : w'.tape = w.tape
  output : w'.output = w.output
  size : w.heap.size ≤ w'.heap.size
  keep : ∀ b, b < w.heap.size → ¬ r.foot b → w'.heap[b]? = w.heap[b]?
  hold : r'.holds w'
  own : ∀ b, r'.foot b → r.foot b ∨ w.heap.size ≤ b

def noBlocks : Nat → Prop := fun _ => False
/-- Nothing: a resource without a block. -/
def emp : Res := ⟨noBlocks, fun _ => True, fun _ _ _ _ => trivial, fun _ _ _ h => h.elim⟩

section
variable {w0 w w' : World} {F : Nat → Prop} {rs : List Res} {r r' : Res}

theorem SH.start (w : World) (F : Nat → Prop) : SH w F [] w := ⟨rfl, rfl, rfl, Nat.le_refl _, fun _ _ _ => rfl, fun _ h => (by cases h), fun _ h => (by cases h), List.Pairwise.nil⟩

theorem SH.get (pre : List Res) (H : SH w0 F (pre ++ r :: rs) w) : r.holds w := H.hold r (by simp)

theorem SH.upd (pre : List Res) (H : SH w0 F (pre ++ r :: rs) w) (U : Upd w r r' w') : SH w0 F (pre ++ r' :: rs) w' := by
  have hd := List.pairwise_append.mp H.disj
  have hc := List.pairwise_cons.mp hd.2.1
  have old : ∀ s, s ∈ pre ∨ s ∈ rs → (∀ b, s.foot b → ¬ r.foot b) := by
    intro s hs b hb hr
    rcases hs with hs | hs
    · exact hd.2.2 s hs r (by simp) b hb hr
    · exact hc.1 s hs b hr hb
  have same : ∀ s, s ∈ pre ∨ s ∈ rs → ∀ b, s.foot b → w'.heap[b]? = w.heap[b]? := by
    intro s hs b hb
    have hh : s.holds w := H.hold s (by rcases hs with h | h <;> simp [h])
    exact U.keep b (s.inside w b hh hb) (old s hs b hb)
  refine ⟨U.os.trans H.os, U.tape.trans H.tape, U.output.trans H.output, Nat.le_trans H.size U.size, ?_, ?_, ?_, ?_⟩
  · intro b hb hF
    refine (U.keep b (Nat.lt_of_lt_of_le hb H.size) fun hr => ?_).trans (H.keep b hb hF)
    rcases H.own r (by simp) b hr with h | h
    · exact hF h
    · omega
  · intro s hs
    rcases List.mem_append.mp hs with h | h
    · exact s.loc w w' (same s (.inl h)) (H.hold s (by simp [h]))
    · rcases List.mem_cons.mp h with h | h
      · subst h; exact U.hold
      · exact s.loc w w' (same s (.inr h)) (H.hold s (by simp [h]))
  · intro s hs b hb
    rcases List.mem_append.mp hs with h | h
    · exact H.own s (by simp [h]) b hb
    · rcases List.mem_cons.mp h with h | h
      · subst h
        rcases U.own b hb with h' | h'
        · exact H.own r (by simp) b h'
        · exact .inr (Nat.le_trans H.size h')
      · exact H.own s (by simp [h]) b hb
  · have fresh : ∀ s, s ∈ pre ∨ s ∈ rs → ∀ b, s.foot b → ¬ r'.foot b := by
      intro s hs b hb hr
      rcases U.own b hr with h | h
      · exact old s hs b hb h
      · have := s.inside w b (H.hold s (by rcases hs with h | h <;> simp [h])) hb
        omega
    refine List.pairwise_append.mpr ⟨hd.1, List.pairwise_cons.mpr ⟨fun s hs b hb hs' => fresh s (.inr hs) b hs' hb, hc.2⟩, ?_⟩
    intro s hs t ht b hb
    rcases List.mem_cons.mp ht with h | h
    · subst h; exact fresh s (.inl hs) b hb
    · exact hd.2.2 s hs t (by simp [h]) b hb

theorem SH.drop (pre : List Res) (H : SH w0 F (pre ++ r :: rs) w) : SH w0 F (pre ++ rs) w := by
  refine ⟨H.os, H.tape, H.output, H.size, H.keep, fun s hs => H.hold s ?_, fun s hs => H.own s ?_, ?_⟩
  · rcases List.mem_append.mp hs with h | h <;> simp [h]
  · rcases List.mem_append.mp hs with h | h <;> simp [h]
  · exact H.disj.sublist (List.Sublist.append_left (List.sublist_cons_self r rs) pre)

theorem SH.perm {rs' : List Res} (H : SH w0 F rs w) (h : rs.Perm rs') : SH w0 F rs' w :=
  ⟨H.os, H.tape, H.output, H.size, H.keep, fun s hs => H.hold s (h.mem_iff.mpr hs), fun s hs => H.own s (h.mem_iff.mpr hs), h.pairwise H.disj fun {a b} k c hc ha => k c ha hc⟩

theorem SH.top (pre : List Res) (H : SH w0 F (pre ++ r :: rs) w) : SH w0 F (r :: (pre ++ rs)) w := H.perm List.perm_middle

/-- A new resource. -/
theorem SH.add (H : SH w0 F rs w) (U : Upd w emp r w') : SH w0 F (r :: rs) w' := by
  have H1 : SH w0 F ([] ++ emp :: rs) w := by
    refine ⟨H.os, H.tape, H.output, H.size, H.keep, fun s hs => ?_, fun s hs b hb => ?_, ?_⟩
    · rcases List.mem_cons.mp hs with h | h
      · subst h; exact trivial
      · exact H.hold s h
    · rcases List.mem_cons.mp hs with h | h
      · subst h; exact hb.elim
      · exact H.own s h b hb
    · exact List.pairwise_cons.mpr ⟨fun s _ b hb => hb.elim, H.disj⟩
  exact H1.upd [] U

/-- A call that owns what stands first, and hands back something else. -/
theorem SH.call {pre post : List Res} {G : Nat → Prop} (H : SH w0 F (pre ++ rs) w) (hG : ∀ b, G b → ∃ r, r ∈ pre ∧ r.foot b) (C : SH w G post w') : SH w0 F (post ++ rs) w' := by
  have hd := List.pairwise_append.mp H.disj
  have same : ∀ s, s ∈ rs → ∀ b, s.foot b → w'.heap[b]? = w.heap[b]? := by
    intro s hs b hb
    refine C.keep b (s.inside w b (H.hold s (by simp [hs])) hb) fun hg => ?_
    obtain ⟨r, hr, hrb⟩ := hG b hg
    exact hd.2.2 r hr s hs b hrb hb
  refine ⟨C.os.trans H.os, C.tape.trans H.tape, C.output.trans H.output, Nat.le_trans H.size C.size, ?_, ?_, ?_, ?_⟩
  · intro b hb hF
    refine (C.keep b (Nat.lt_of_lt_of_le hb H.size) fun hg => ?_).trans (H.keep b hb hF)
    obtain ⟨r, hr, hrb⟩ := hG b hg
    rcases H.own r (by simp [hr]) b hrb with h | h
    · exact hF h
    · omega
  · intro s hs
    rcases List.mem_append.mp hs with h | h
    · exact C.hold s h
    · exact s.loc w w' (same s h) (H.hold s (by simp [h]))
  · intro s hs b hb
    rcases List.mem_append.mp hs with h | h
    · rcases C.own s h b hb with h' | h'
      · obtain ⟨r, hr, hrb⟩ := hG b h'
        exact H.own r (by simp [hr]) b hrb
      · exact .inr (Nat.le_trans H.size h')
    · exact H.own s (by simp [h]) b hb
  · refine List.pairwise_append.mpr ⟨C.disj, hd.2.1, ?_⟩
    intro s hs t ht b hb htb
    rcases C.own s hs b hb with h | h
    · obtain ⟨r, hr, hrb⟩ := hG b h
      exact hd.2.2 r hr t ht b hrb htb
    · have := t.inside w b (H.hold t (by simp [ht])) htb
      omega
/-- A call that owns nothing. -/
theorem SH.call0 {post : List Res} (H : SH w0 F rs w) (C : SH w noBlocks post w') : SH w0 F (post ++ rs) w' := SH.call (pre := []) H (fun _ h => h.elim) C
theorem SH.call0n (H : SH w0 F rs w) (C : SH w noBlocks [] w') : SH w0 F rs w' := SH.call0 H C
theorem SH.call0r {r : Res} (H : SH w0 F rs w) (C : SH w noBlocks [r] w') : SH w0 F (r :: rs) w' := SH.call0 H C

/-- Less is told of what is owned. -/
theorem SH.less {F' : Nat → Prop} (H : SH w0 F rs w) (h : ∀ b, F b → b < w0.heap.size → F' b) (ho : ∀ r, r ∈ rs → ∀ b, r.foot b → F b → b < w0.heap.size → F' b := fun r hr b hb hF hlt => h b hF hlt) : SH w0 F' rs w :=
  ⟨H.os, H.tape, H.output, H.size, fun b hb hF => H.keep b hb fun h' => hF (h b h' hb), H.hold, fun r hr b hb => by
    rcases Nat.lt_or_ge b w0.heap.size with hlt | hge
    · rcases H.own r hr b hb with h' | h'
      · exact .inl (h b h' hlt)
      · omega
    · exact .inr hge, H.disj⟩

theorem SH.drew (H : SH w0 F rs w) : SH w0 F rs w.drew := ⟨H.os, H.tape, H.output, H.size, H.keep, fun r hr => r.loc w w.drew (fun _ _ => rfl) (H.hold r hr), H.own, H.disj⟩
theorem SH.drewN (H : SH w0 F rs w) (n : Nat) : SH w0 F rs (w.drewN n) := ⟨H.os, H.tape, H.output, H.size, H.keep, fun r hr => r.loc w (w.drewN n) (fun _ _ => rfl) (H.hold r hr), H.own, H.disj⟩

/-- A cell that stood before, outside the footprint. -/
theorem SH.cell (H : SH w0 F rs w) {a : Addr} {v : Value} (h : w0.cell? a = some v) (hF : ¬ F a.block) : w.cell? a = some v :=
  (World.cell?_of_block (H.keep a.block (World.block_lt_of_cell? w0 a h) hF)).trans h
theorem SH.below (H : SH w0 noBlocks rs w) : Below w0.heap.size w0 w := ⟨H.os, H.tape, H.output, H.size, fun b hb => H.keep b hb id⟩
theorem SH.of_below (H : Below w0.heap.size w0 w) : SH w0 noBlocks [] w := ⟨H.os, H.tape, H.output, H.size, fun b hb _ => H.block b hb, fun _ h => (by cases h), fun _ h => (by cases h), List.Pairwise.nil⟩

theorem SH.get0 {r0 : Res} (H : SH w0 F (r0 :: rs) w) : r0.holds w := H.get []
theorem SH.upd0 {r0 r : Res} (H : SH w0 F (r0 :: rs) w) (U : Upd w r0 r w') : SH w0 F (r :: rs) w' := H.upd [] U
theorem SH.drop0 {r0 : Res} (H : SH w0 F (r0 :: rs) w) : SH w0 F (rs) w := H.drop []
theorem SH.get1 {r0 r1 : Res} (H : SH w0 F (r0 :: r1 :: rs) w) : r1.holds w := H.get [r0]
theorem SH.upd1 {r0 r1 r : Res} (H : SH w0 F (r0 :: r1 :: rs) w) (U : Upd w r1 r w') : SH w0 F (r0 :: r :: rs) w' := H.upd [r0] U
theorem SH.drop1 {r0 r1 : Res} (H : SH w0 F (r0 :: r1 :: rs) w) : SH w0 F (r0 :: rs) w := H.drop [r0]
theorem SH.top1 {r0 r1 : Res} (H : SH w0 F (r0 :: r1 :: rs) w) : SH w0 F (r1 :: r0 :: rs) w := H.top [r0]
theorem SH.get2 {r0 r1 r2 : Res} (H : SH w0 F (r0 :: r1 :: r2 :: rs) w) : r2.holds w := H.get [r0, r1]
theorem SH.upd2 {r0 r1 r2 r : Res} (H : SH w0 F (r0 :: r1 :: r2 :: rs) w) (U : Upd w r2 r w') : SH w0 F (r0 :: r1 :: r :: rs) w' := H.upd [r0, r1] U
theorem SH.drop2 {r0 r1 r2 : Res} (H : SH w0 F (r0 :: r1 :: r2 :: rs) w) : SH w0 F (r0 :: r1 :: rs) w := H.drop [r0, r1]
theorem SH.top2 {r0 r1 r2 : Res} (H : SH w0 F (r0 :: r1 :: r2 :: rs) w) : SH w0 F (r2 :: r0 :: r1 :: rs) w := H.top [r0, r1]
theorem SH.get3 {r0 r1 r2 r3 : Res} (H : SH w0 F (r0 :: r1 :: r2 :: r3 :: rs) w) : r3.holds w := H.get [r0, r1, r2]
theorem SH.upd3 {r0 r1 r2 r3 r : Res} (H : SH w0 F (r0 :: r1 :: r2 :: r3 :: rs) w) (U : Upd w r3 r w') : SH w0 F (r0 :: r1 :: r2 :: r :: rs) w' := H.upd [r0, r1, r2] U
theorem SH.drop3 {r0 r1 r2 r3 : Res} (H : SH w0 F (r0 :: r1 :: r2 :: r3 :: rs) w) : SH w0 F (r0 :: r1 :: r2 :: rs) w := H.drop [r0, r1, r2]
theorem SH.top3 {r0 r1 r2 r3 : Res} (H : SH w0 F (r0 :: r1 :: r2 :: r3 :: rs) w) : SH w0 F (r3 :: r0 :: r1 :: r2 :: rs) w := H.top [r0, r1, r2]
theorem SH.get4 {r0 r1 r2 r3 r4 : Res} (H : SH w0 F (r0 :: r1 :: r2 :: r3 :: r4 :: rs) w) : r4.holds w := H.get [r0, r1, r2, r3]
theorem SH.upd4 {r0 r1 r2 r3 r4 r : Res} (H : SH w0 F (r0 :: r1 :: r2 :: r3 :: r4 :: rs) w) (U : Upd w r4 r w') : SH w0 F (r0 :: r1 :: r2 :: r3 :: r :: rs) w' := H.upd [r0, r1, r2, r3] U
theorem SH.drop4 {r0 r1 r2 r3 r4 : Res} (H : SH w0 F (r0 :: r1 :: r2 :: r3 :: r4 :: rs) w) : SH w0 F (r0 :: r1 :: r2 :: r3 :: rs) w := H.drop [r0, r1, r2, r3]
theorem SH.top4 {r0 r1 r2 r3 r4 : Res} (H : SH w0 F (r0 :: r1 :: r2 :: r3 :: r4 :: rs) w) : SH w0 F (r4 :: r0 :: r1 :: r2 :: r3 :: rs) w := H.top [r0, r1, r2, r3]
theorem SH.get5 {r0 r1 r2 r3 r4 r5 : Res} (H : SH w0 F (r0 :: r1 :: r2 :: r3 :: r4 :: r5 :: rs) w) : r5.holds w := H.get [r0, r1, r2, r3, r4]
theorem SH.upd5 {r0 r1 r2 r3 r4 r5 r : Res} (H : SH w0 F (r0 :: r1 :: r2 :: r3 :: r4 :: r5 :: rs) w) (U : Upd w r5 r w') : SH w0 F (r0 :: r1 :: r2 :: r3 :: r4 :: r :: rs) w' := H.upd [r0, r1, r2, r3, r4] U
theorem SH.drop5 {r0 r1 r2 r3 r4 r5 : Res} (H : SH w0 F (r0 :: r1 :: r2 :: r3 :: r4 :: r5 :: rs) w) : SH w0 F (r0 :: r1 :: r2 :: r3 :: r4 :: rs) w := H.drop [r0, r1, r2, r3, r4]
theorem SH.top5 {r0 r1 r2 r3 r4 r5 : Res} (H : SH w0 F (r0 :: r1 :: r2 :: r3 :: r4 :: r5 :: rs) w) : SH w0 F (r5 :: r0 :: r1 :: r2 :: r3 :: r4 :: rs) w := H.top [r0, r1, r2, r3, r4]
theorem SH.get6 {r0 r1 r2 r3 r4 r5 r6 : Res} (H : SH w0 F (r0 :: r1 :: r2 :: r3 :: r4 :: r5 :: r6 :: rs) w) : r6.holds w := H.get [r0, r1, r2, r3, r4, r5]
theorem SH.upd6 {r0 r1 r2 r3 r4 r5 r6 r : Res} (H : SH w0 F (r0 :: r1 :: r2 :: r3 :: r4 :: r5 :: r6 :: rs) w) (U : Upd w r6 r w') : SH w0 F (r0 :: r1 :: r2 :: r3 :: r4 :: r5 :: r :: rs) w' := H.upd [r0, r1, r2, r3, r4, r5] U
theorem SH.drop6 {r0 r1 r2 r3 r4 r5 r6 : Res} (H : SH w0 F (r0 :: r1 :: r2 :: r3 :: r4 :: r5 :: r6 :: rs) w) : SH w0 F (r0 :: r1 :: r2 :: r3 :: r4 :: r5 :: rs) w := H.drop [r0, r1, r2, r3, r4, r5]
theorem SH.top6 {r0 r1 r2 r3 r4 r5 r6 : Res} (H : SH w0 F (r0 :: r1 :: r2 :: r3 :: r4 :: r5 :: r6 :: rs) w) : SH w0 F (r6 :: r0 :: r1 :: r2 :: r3 :: r4 :: r5 :: rs) w := H.top [r0, r1, r2, r3, r4, r5]
theorem SH.get7 {r0 r1 r2 r3 r4 r5 r6 r7 : Res} (H : SH w0 F (r0 :: r1 :: r2 :: r3 :: r4 :: r5 :: r6 :: r7 :: rs) w) : r7.holds w := H.get [r0, r1, r2, r3, r4, r5, r6]
theorem SH.upd7 {r0 r1 r2 r3 r4 r5 r6 r7 r : Res} (H : SH w0 F (r0 :: r1 :: r2 :: r3 :: r4 :: r5 :: r6 :: r7 :: rs) w) (U : Upd w r7 r w') : SH w0 F (r0 :: r1 :: r2 :: r3 :: r4 :: r5 :: r6 :: r :: rs) w' := H.upd [r0, r1, r2, r3, r4, r5, r6] U
theorem SH.drop7 {r0 r1 r2 r3 r4 r5 r6 r7 : Res} (H : SH w0 F (r0 :: r1 :: r2 :: r3 :: r4 :: r5 :: r6 :: r7 :: rs) w) : SH w0 F (r0 :: r1 :: r2 :: r3 :: r4 :: r5 :: r6 :: rs) w := H.drop [r0, r1, r2, r3, r4, r5, r6]
theorem SH.top7 {r0 r1 r2 r3 r4 r5 r6 r7 : Res} (H : SH w0 F (r0 :: r1 :: r2 :: r3 :: r4 :: r5 :: r6 :: r7 :: rs) w) : SH w0 F (r7 :: r0 :: r1 :: r2 :: r3 :: r4 :: r5 :: r6 :: rs) w := H.top [r0, r1, r2, r3, r4, r5, r6]
theorem SH.get8 {r0 r1 r2 r3 r4 r5 r6 r7 r8 : Res} (H : SH w0 F (r0 :: r1 :: r2 :: r3 :: r4 :: r5 :: r6 :: r7 :: r8 :: rs) w) : r8.holds w := H.get [r0, r1, r2, r3, r4, r5, r6, r7]
theorem SH.upd8 {r0 r1 r2 r3 r4 r5 r6 r7 r8 r : Res} (H : SH w0 F (r0 :: r1 :: r2 :: r3 :: r4 :: r5 :: r6 :: r7 :: r8 :: rs) w) (U : Upd w r8 r w') : SH w0 F (r0 :: r1 :: r2 :: r3 :: r4 :: r5 :: r6 :: r7 :: r :: rs) w' := H.upd [r0, r1, r2, r3, r4, r5, r6, r7] U
theorem SH.drop8 {r0 r1 r2 r3 r4 r5 r6 r7 r8 : Res} (H : SH w0 F (r0 :: r1 :: r2 :: r3 :: r4 :: r5 :: r6 :: r7 :: r8 :: rs) w) : SH w0 F (r0 :: r1 :: r2 :: r3 :: r4 :: r5 :: r6 :: r7 :: rs) w := H.drop [r0, r1, r2, r3, r4, r5, r6, r7]
theorem SH.top8 {r0 r1 r2 r3 r4 r5 r6 r7 r8 : Res} (H : SH w0 F (r0 :: r1 :: r2 :: r3 :: r4 :: r5 :: r6 :: r7 :: r8 :: rs) w) : SH w0 F (r8 :: r0 :: r1 :: r2 :: r3 :: r4 :: r5 :: r6 :: r7 :: rs) w := H.top [r0, r1, r2, r3, r4, r5, r6, r7]
theorem SH.get9 {r0 r1 r2 r3 r4 r5 r6 r7 r8 r9 : Res} (H : SH w0 F (r0 :: r1 :: r2 :: r3 :: r4 :: r5 :: r6 :: r7 :: r8 :: r9 :: rs) w) : r9.holds w := H.get [r0, r1, r2, r3, r4, r5, r6, r7, r8]
theorem SH.upd9 {r0 r1 r2 r3 r4 r5 r6 r7 r8 r9 r : Res} (H : SH w0 F (r0 :: r1 :: r2 :: r3 :: r4 :: r5 :: r6 :: r7 :: r8 :: r9 :: rs) w) (U : Upd w r9 r w') : SH w0 F (r0 :: r1 :: r2 :: r3 :: r4 :: r5 :: r6 :: r7 :: r8 :: r :: rs) w' := H.upd [r0, r1, r2, r3, r4, r5, r6, r7, r8] U
theorem SH.drop9 {r0 r1 r2 r3 r4 r5 r6 r7 r8 r9 : Res} (H : SH w0 F (r0 :: r1 :: r2 :: r3 :: r4 :: r5 :: r6 :: r7 :: r8 :: r9 :: rs) w) : SH w0 F (r0 :: r1 :: r2 :: r3 :: r4 :: r5 :: r6 :: r7 :: r8 :: rs) w := H.drop [r0, r1, r2, r3, r4, r5, r6, r7, r8]
theorem SH.top9 {r0 r1 r2 r3 r4 r5 r6 r7 r8 r9 : Res} (H : SH w0 F (r0 :: r1 :: r2 :: r3 :: r4 :: r5 :: r6 :: r7 :: r8 :: r9 :: rs) w) : SH w0 F (r9 :: r0 :: r1 :: r2 :: r3 :: r4 :: r5 :: r6 :: r7 :: r8 :: rs) w := H.top [r0, r1, r2, r3, r4, r5, r6, r7, r8]
theorem SH.own1 (h : r.holds w) : SH w r.foot [r] w := ⟨rfl, rfl, rfl, Nat.le_refl _, fun _ _ _ => rfl, fun s hs => by simp at hs; subst hs; exact h, fun s hs b hb => by simp at hs; subst hs; exact .inl hb, by simp⟩
theorem SH.ownAll {rs : List Res} (h : ∀ r, r ∈ rs → r.holds w) (hd : rs.Pairwise fun r s => ∀ b, r.foot b → ¬ s.foot b) : SH w (fun b => ∃ r, r ∈ rs ∧ r.foot b) rs w :=
  ⟨rfl, rfl, rfl, Nat.le_refl _, fun _ _ _ => rfl, h, fun s hs b hb => .inl ⟨s, hs, hb⟩, hd⟩
theorem SH.two {s t : Res} (H : SH w0 F (r :: rs) w) (h1 : s.holds w) (h2 : t.holds w) (hs : ∀ b, s.foot b → r.foot b) (ht : ∀ b, t.foot b → r.foot b) (hd : ∀ b, s.foot b → ¬ t.foot b) : SH w0 F (s :: t :: rs) w := by
  have hp := List.pairwise_cons.mp H.disj
  refine ⟨H.os, H.tape, H.output, H.size, H.keep, fun x hx => ?_, fun x hx b hb => ?_, ?_⟩
  · rcases List.mem_cons.mp hx with h | h
    · subst h; exact h1
    · rcases List.mem_cons.mp h with h | h
      · subst h; exact h2
      · exact H.hold x (by simp [h])
  · rcases List.mem_cons.mp hx with h | h
    · subst h; exact H.own r (by simp) b (hs b hb)
    · rcases List.mem_cons.mp h with h | h
      · subst h; exact H.own r (by simp) b (ht b hb)
      · exact H.own x (by simp [h]) b hb
  · refine List.pairwise_cons.mpr ⟨fun x hx b hb => ?_, List.pairwise_cons.mpr ⟨fun x hx b hb => hp.1 x hx b (ht b hb), hp.2⟩⟩
    rcases List.mem_cons.mp hx with h | h
    · subst h; exact hd b hb
    · exact hp.1 x h b (hs b hb)
theorem SH.join {s t : Res} (H : SH w0 F (s :: t :: rs) w) (h : s.holds w → t.holds w → r.holds w) (hf : ∀ b, r.foot b → s.foot b ∨ t.foot b) : SH w0 F (r :: rs) w := by
  have hp := List.pairwise_cons.mp H.disj
  have hq := List.pairwise_cons.mp hp.2
  refine ⟨H.os, H.tape, H.output, H.size, H.keep, fun x hx => ?_, fun x hx b hb => ?_, ?_⟩
  · rcases List.mem_cons.mp hx with h' | h'
    · subst h'; exact h (H.hold s (by simp)) (H.hold t (by simp))
    · exact H.hold x (by simp [h'])
  · rcases List.mem_cons.mp hx with h' | h'
    · subst h'
      rcases hf b hb with h' | h'
      · exact H.own s (by simp) b h'
      · exact H.own t (by simp) b h'
    · exact H.own x (by simp [h']) b hb
  · refine List.pairwise_cons.mpr ⟨fun x hx b hb => ?_, hq.2⟩
    rcases hf b hb with h' | h'
    · exact hp.1 x (by simp [hx]) b h'
    · exact hq.1 x hx b h'
theorem SH.call1 (H : SH w0 F (r :: rs) w) (C : SH w r.foot [r'] w') : SH w0 F (r' :: rs) w' := SH.call (pre := [r]) H (fun b hb => ⟨r, by simp, hb⟩) C
theorem SH.call1e {post : List Res} (H : SH w0 F (r :: rs) w) (C : SH w r.foot post w') : SH w0 F (post ++ rs) w' := SH.call (pre := [r]) H (fun b hb => ⟨r, by simp, hb⟩) C
theorem SH.conv (H : SH w0 F (r :: rs) w) (h : r.holds w → r'.holds w) (hf : ∀ b, r'.foot b → r.foot b) : SH w0 F (r' :: rs) w :=
  H.upd0 ⟨rfl, rfl, rfl, Nat.le_refl _, fun _ _ _ => rfl, h H.get0, fun b hb => .inl (hf b hb)⟩
theorem SH.foot {F' : Nat → Prop} (H : SH w0 F rs w) (h : ∀ b, F b → F' b) : SH w0 F' rs w := H.less (fun b hb _ => h b hb)
end

/-! ### A block that is known whole -/
def blk (b : Nat) (t : TypeId) (cs : List Value) : Res :=
  ⟨fun x => x = b, fun w => w.heap[b]? = some (.cells cs.toArray t (0, 0)), fun w w' h hw => by have := h b rfl; simpa [this] using hw, fun w x h hx => by
    have hx : x = b := hx
    subst hx
    rcases Nat.lt_or_ge x w.heap.size with hlt | hge
    · exact hlt
    · rw [Array.getElem?_eq_none hge] at h; cases h⟩

section
variable {w0 w w' : World} {F : Nat → Prop} {rs : List Res} {b : Nat} {t : TypeId} {cs : List Value}
theorem blk_cell (h : (blk b t cs).holds w) {j : Nat} {v : Value} (hj : cs[j]? = some v) : w.cell? ⟨b, j, none⟩ = some v := by
  have h : w.heap[b]? = some (.cells cs.toArray t (0, 0)) := h
  simp [World.cell?, h, hj]
theorem blk_frozen (h : (blk b t cs).holds w) (j : Nat) : w.frozen? ⟨b, j, none⟩ = false := by
  have h : w.heap[b]? = some (.cells cs.toArray t (0, 0)) := h
  simp [World.frozen?, h]
theorem upd_alloc (w : World) (t : TypeId) (cs : List Value) : Upd w emp (blk w.heap.size t cs) (w.alloc (.cells cs.toArray t)) :=
  ⟨rfl, rfl, rfl, by simp, fun b hb _ => Below.heap_alloc w _ b hb, heap_alloc_new w _, fun b hb => .inr (by have hb : b = w.heap.size := hb; omega)⟩
theorem upd_set (h : (blk b t cs).holds w) (j : Nat) (v : Value) : Upd w (blk b t cs) (blk b t (cs.set j v)) (w.setCell ⟨b, j, none⟩ v) := by
  have h : w.heap[b]? = some (.cells cs.toArray t (0, 0)) := h
  refine ⟨rfl, rfl, rfl, by simp [World.setCell], fun x hx hne => Below.heap_setCell w _ v x hne, ?_, fun x hx => .inl hx⟩
  show (w.setCell ⟨b, j, none⟩ v).heap[b]? = _
  simp [World.setCell, Array.getElem?_modify, h]
end
end Go.Proofs.Ytblipnjjgbggiaa
