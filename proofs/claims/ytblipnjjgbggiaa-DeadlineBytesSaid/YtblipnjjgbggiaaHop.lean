/- A label, and jumps back to it. Conditions: none. -/
import Derived.Test.YtblipnjjgbggiaaVec
namespace Go.Proofs.Ytblipnjjgbggiaa
open Go Go.RowKit
set_option linter.unusedVariables false
def hop (l : Nat) (K : Act → World → Prop) (Q : Exit → Act → World → Prop) : Exit → Act → World → Prop
  | .goto l', a, w => l' = l ∧ K a w
  | e, a, w => Q e a w
section
variable {P : Program} {n : Nat} {D : List Deferred} {Q : Exit → Act → World → Prop} {w : World} {l : List (Nat × Value)} {c R : Code} {lab : Nat}
theorem tk_hop {K : Act → World → Prop} (h : TrK n D K l w) : TrK n D (fun a w => lab = lab ∧ K a w) l w := fun a ha => ⟨rfl, h a ha⟩
theorem tr_scope (hf : findLabel c lab = some (.seq .skip R)) {X : Type} (L : X → List (Nat × Value)) (I : X → World → Prop) (μ : X → Nat)
    (round : ∀ (x : X) (w : World), I x w → ∀ K : Act → World → Prop, (∀ (x' : X) (l' : List (Nat × Value)) (w' : World), I x' w' → μ x' < μ x → Sub (L x') l' → TrK n D K l' w') → TrC P n D R (L x) w (hop lab K Q))
    (start : ∀ K : Act → World → Prop, (∀ (x : X) (l' : List (Nat × Value)) (w' : World), I x w' → Sub (L x) l' → TrC P n D R l' w' (hop lab K Q)) → TrC P n D c l w (hop lab K Q)) :
    TrC P n D (.scope c) l w Q := by
  have fin : ∀ {b : Frame} {k : List Item} {cs : List Frame} {m : Machine} {K : Act → World → Prop} {e : Exit} {a : Act} {w : World}, hop lab K Q e a w → Arrives P m b (.inScope c :: k) cs e a w →
      (∀ a w, K a w → ∃ e a' w', Q e a' w' ∧ Arrives P (lone (b.at a (.code (.seq .skip R) :: .inScope c :: k)) cs w) b k cs e a' w') → ∃ e a' w', Q e a' w' ∧ Arrives P m b k cs e a' w' := by
    intro b k cs m K e a w hq harr hK
    cases e with
    | normal => exact ⟨.normal, a, w, hq, Steps.trans harr (.one step_inScope)⟩
    | exit id => exact ⟨.exit id, a, w, hq, fun k' hk => harr k' (by simp [exitTo, hk])⟩
    | goto l' =>
      obtain ⟨rfl, hk⟩ := hq
      have hs := harr (.code (.seq .skip R) :: .inScope c :: k) (by simp [gotoIn, hf])
      obtain ⟨e, a', w', q, r⟩ := hK a w hk
      exact ⟨e, a', w', q, .of_steps hs r⟩
    | ret => exact ⟨_, a, w, hq, harr⟩
    | panic ch => exact ⟨_, a, w, hq, harr⟩
    | outgrown => exact ⟨_, a, w, hq, harr⟩
  have all : ∀ (m : Nat) (x : X) (w : World) (a : Act), μ x = m → I x w → Fr a n D (L x) → ∀ (b : Frame) (k : List Item) (cs : List Frame),
      ∃ e a' w', Q e a' w' ∧ Arrives P (lone (b.at a (.code (.seq .skip R) :: .inScope c :: k)) cs w) b k cs e a' w' := by
    intro m
    induction m using Nat.strongRecOn with
    | _ m ih =>
      intro x w a hm hI ha b k cs
      have hr : (Code.seq .skip R).wp P (hop lab (fun a w => ∃ x', I x' w ∧ μ x' < μ x ∧ Fr a n D (L x')) Q) a w :=
        wp_seq (wp_skip (round x w hI _ (fun x' l' w' hx' hm' hs a' ha' => ⟨x', hx', hm', ha'.sub hs⟩) a ha))
      obtain ⟨e, a1, w1, hq, harr⟩ := hr b (.inScope c :: k) cs
      refine fin hq harr ?_
      rintro a2 w2 ⟨x', hx', hm', hf'⟩
      exact ih (μ x') (by omega) x' w2 a2 rfl hx' hf' b k cs
  intro a ha b k cs
  obtain ⟨e, a1, w1, hq, harr⟩ := start (fun a w => ∃ x, I x w ∧ Fr a n D (L x)) (fun x l' w' hx hs => TrC.sub hs (round x w' hx _ (fun x' l' w' hx' _ hs a' ha' => ⟨x', hx', ha'.sub hs⟩))) a ha b (.inScope c :: k) cs
  obtain ⟨e, a', w', q, r⟩ := fin hq harr (fun a2 w2 ⟨x, hx, hf'⟩ => all _ x w2 a2 rfl hx hf' b k cs)
  exact ⟨e, a', w', q, .of_steps (.one step_scope) r⟩
theorem tr_scope_ (hf : findLabel c lab = some (.seq .skip R)) {X : Type} (ts : List Nat) (V : X → List (Nat × Value)) (I : X → World → Prop) (μ : X → Nat)
    (round : ∀ (x : X) (w : World), I x w → ∀ K : Act → World → Prop, (∀ (x' : X) (l' : List (Nat × Value)) (w' : World), I x' w' → μ x' < μ x → Sub (V x' ++ sel ts l) l' → TrK n D K l' w') → TrC P n D R (V x ++ sel ts l) w (hop lab K Q))
    (start : ∀ K : Act → World → Prop, (∀ (x : X) (l' : List (Nat × Value)) (w' : World), I x w' → Sub (V x ++ sel ts l) l' → TrC P n D R l' w' (hop lab K Q)) → TrC P n D c l w (hop lab K Q)) :
    TrC P n D (.scope c) l w Q := tr_scope hf (fun x => V x ++ sel ts l) I μ round start
/-- The ways through x meet again. -/
theorem tr_seq_cut_ {x y : Code} (ts : List Nat) (new : List (Nat × Value)) (I : World → Prop) (hx : ∀ K : Act → World → Prop, (∀ l' w', Sub (new ++ sel ts l) l' → I w' → TrK n D K l' w') → TrC P n D x l w (Exit.then K Q))
    (hy : ∀ w', I w' → TrC P n D y (new ++ sel ts l) w' Q) : TrC P n D (.seq x y) l w Q :=
  tr_seq_cut (fun l' w' => Sub (new ++ sel ts l) l' ∧ I w') (fun K h => hx K fun l' w' hs hi => h l' w' ⟨hs, hi⟩) (fun l' w' h => TrC.sub h.1 (hy w' h.2))
end
end Go.Proofs.Ytblipnjjgbggiaa
