/- A wheel that turns: what has been taken, and where the rest must be. The plain mathematics. Conditions: none. -/
import Derived.Test.YtblipnjjgbggiaaWheelT
namespace Go.Proofs.Ytblipnjjgbggiaa
open Go Go.RowKit
set_option linter.unusedVariables false
set_option linter.unusedSectionVars false
set_option linter.unusedSimpArgs false
def lowP (was i k : Int) (t : Thing) : Bool := decide ((placeV was t.due).1 < i ∨ ((placeV was t.due).1 = i ∧ (placeV was t.due).2 < k))
/-- Of the ring i the slots below k are taken, of the rings below it all. -/
structure TFull (was : Int) (X : List Thing) (i k : Int) (Rs : List (List RThing)) (Lt : List Thing) : Prop where
  len : Rs.length = 4
  wf : ∀ j : Int, 0 ≤ j → j < 4 → Wf (gt Rs j)
  rings : ∀ j : Int, 0 ≤ j → j < 4 → ∀ r, r ∈ gt Rs j ↔ i ≤ j ∧ (j = i → k ≤ r.slot) ∧ plainR r ∈ X ∧ placeV was r.due = (j, r.slot)
  late : Lt.Perm (X.filter (lowP was i k))
def lowS (was to_ i k : Int) (t : Thing) : Bool := decide (t.due ≤ to_ ∧ ((placeV was t.due).1 < i ∨ ((placeV was t.due).1 = i ∧ (placeV was t.due).2 < k)))
/-- The same in the ring that stands: what is not late has gone down. -/
structure TSame (was to_ : Int) (X : List Thing) (i k : Int) (Rs : List (List RThing)) (Lt : List Thing) : Prop where
  len : Rs.length = 4
  wf : ∀ j : Int, 0 ≤ j → j < 4 → Wf (gt Rs j)
  rings : ∀ j : Int, 0 ≤ j → j < 4 → ∀ r, r ∈ gt Rs j ↔ plainR r ∈ X ∧ ((i < j ∧ placeV was r.due = (j, r.slot)) ∨ (j = i ∧ k ≤ r.slot ∧ placeV was r.due = (j, r.slot)) ∨ (j < i ∧ to_ < r.due ∧ (placeV was r.due).1 = i ∧ (placeV was r.due).2 < k ∧ placeV to_ r.due = (j, r.slot)))
  late : Lt.Perm (X.filter (lowS was to_ i k))
section
variable {was to_ i k j : Int} {X Fv l Lt : List Thing} {Rs Rs2 : List (List RThing)} {t : Thing} {r : RThing} {V E : List (Int × Thing × Nat)} {ck : Nat}
theorem TFull.start (h : WRel was X Rs Fv) : TFull was X 0 0 Rs [] := by
  refine ⟨h.len, h.wf, fun j h0 h1 r => ?_, ?_⟩
  · rw [h.ring j h0 h1]
    constructor
    · rintro ⟨a, b⟩
      have := place_rng was r.due
      rw [b] at this
      exact ⟨h0, fun _ => this.2.2.1, a, b⟩
    · rintro ⟨_, _, a, b⟩; exact ⟨a, b⟩
  · rw [List.filter_eq_nil_iff.mpr]
    intro t ht
    have := place_rng was t.due
    unfold lowP
    simp; omega
/-- What lies in a slot of the ring. -/
theorem slot_perm {W : List RThing} (hw : Wf W) (hX : Ids X) (h : ∀ t, toR t k ∈ W ↔ t ∈ X ∧ placeV was t.due = (i, k)) : (sortT (slotL W k)).Perm (X.filter fun t => decide (placeV was t.due = (i, k))) := by
  refine (sortT_perm _).trans (perm_of ?_ (hX.sub List.filter_sublist).nodup fun t => ?_)
  · unfold slotL
    exact List.Nodup.sublist (List.filter_sublist.map _) (ids_plain hw).nodup
  · rw [mem_slotL, h t, List.mem_filter]; simp
theorem TFull.slot (h : TFull was X i k Rs Lt) (hX : Ids X) (h0 : 0 ≤ i) (h1 : i < 4) : (sortT (slotL (gt Rs i) k)).Perm (X.filter fun t => decide (placeV was t.due = (i, k))) := by
  refine slot_perm (h.wf i h0 h1) hX fun t => ?_
  rw [h.rings i h0 h1]
  constructor
  · rintro ⟨_, _, a, b⟩; exact ⟨a, b⟩
  · rintro ⟨a, b⟩; exact ⟨Int.le_refl _, fun _ => Int.le_refl _, a, b⟩
theorem mem_leftR {W : List RThing} : r ∈ leftR W k ↔ r ∈ W ∧ r.slot ≠ k := by unfold leftR; rw [List.mem_filter]; simp
theorem TFull.step (h : TFull was X i k Rs Lt) (hX : Ids X) (h0 : 0 ≤ i) (h1 : i < 4) (k0 : 0 ≤ k) (hl : Rs2.length = 4) (hg : ∀ j : Int, 0 ≤ j → j < 4 → gt Rs2 j = if j = i then leftR (gt Rs i) k else gt Rs j) :
    TFull was X i (k + 1) Rs2 (Lt ++ sortT (slotL (gt Rs i) k)) := by
  refine ⟨hl, fun j j0 j1 => ?_, fun j j0 j1 r => ?_, ?_⟩
  · rw [hg j j0 j1]; split
    · exact (h.wf i h0 h1).left
    · exact h.wf j j0 j1
  · rw [hg j j0 j1]; split
    · rename_i e; subst e
      rw [mem_leftR, h.rings j j0 j1]
      constructor
      · rintro ⟨⟨a, b, c⟩, d⟩; exact ⟨a, fun e => by have := b e; omega, c⟩
      · rintro ⟨a, b, c⟩; exact ⟨⟨a, fun e => by have := b e; omega, c⟩, by have := b rfl; omega⟩
    · rename_i e
      rw [h.rings j j0 j1]
      constructor
      · rintro ⟨a, b, c⟩; exact ⟨a, fun q => absurd q e, c⟩
      · rintro ⟨a, b, c⟩; exact ⟨a, fun q => absurd q e, c⟩
  · refine (h.late.append (h.slot hX h0 h1)).trans ((filter_or _ _ (fun t q => ?_) X).trans (List.Perm.of_eq (List.filter_congr fun t _ => ?_)))
    · unfold lowP at q
      have q := of_decide_eq_true q
      refine decide_eq_false fun e => ?_
      rw [e] at q
      simp at q
    · unfold lowP
      rw [Bool.eq_iff_iff]
      simp only [Bool.or_eq_true, decide_eq_true_eq, Prod.ext_iff]
      omega
theorem TFull.next (h : TFull was X i k Rs Lt) (h0 : 0 ≤ i) (hk : 64 ≤ k) : TFull was X (i + 1) 0 Rs Lt := by
  refine ⟨h.len, h.wf, fun j j0 j1 r => ?_, h.late.trans (List.Perm.of_eq (List.filter_congr fun t _ => ?_))⟩
  · rw [h.rings j j0 j1]
    constructor
    · rintro ⟨a, b, c, d⟩
      have hr := place_rng was r.due
      rw [d] at hr
      have hne : j ≠ i := fun e => by have := b e; have := hr.2.2.2; simp at this; omega
      exact ⟨by omega, fun _ => hr.2.2.1, c, d⟩
    · rintro ⟨a, b, c⟩
      exact ⟨by omega, fun e => by omega, c⟩
  · have := place_rng was t.due
    unfold lowP
    rw [decide_eq_decide]; omega
theorem TFull.all_late (h : TFull was X i k Rs Lt) (hX : Ids X) (h0 : 0 ≤ i) (h1 : i < 4) (hw : was ≤ to_) (hs : ¬ samI was to_ i) : ∀ t, t ∈ sortT (slotL (gt Rs i) k) → t.due ≤ to_ := by
  intro t ht
  have := List.mem_filter.mp ((h.slot hX h0 h1).mem_iff.mp ht)
  have e : placeV was t.due = (i, k) := of_decide_eq_true this.2
  exact turn_late hw h0 h1 hs (by rw [e])
theorem dn_all (h : ∀ t, t ∈ l → t.due ≤ to_) : dnLate to_ l = l ∧ dnFar to_ l = [] ∧ ∀ j, dnRing to_ l j = [] := by
  refine ⟨List.filter_eq_self.mpr fun t ht => decide_eq_true (h t ht), List.filter_eq_nil_iff.mpr fun t ht => ?_, fun j => ?_⟩
  · have := h t ht
    simp; omega
  · unfold dnRing
    rw [List.filter_eq_nil_iff.mpr]
    · rfl
    · intro t ht
      have := h t ht
      simp; omega
theorem TFull.few (h : TFull was X i k Rs Lt) (hX : Ids X) (hf : X.length ≤ 256) (j0 : 0 ≤ j) (j1 : j < 4) : (gt Rs j).length ≤ 256 := by
  have hn := (ids_plain (h.wf j j0 j1)).nodup
  have hp : ((gt Rs j).map plainR).Perm (X.filter fun t => decide (t ∈ (gt Rs j).map plainR)) := by
    refine perm_of hn (hX.sub List.filter_sublist).nodup fun t => ?_
    rw [List.mem_filter]
    constructor
    · intro ht
      obtain ⟨r, hr, rfl⟩ := List.mem_map.mp ht
      exact ⟨((h.rings j j0 j1 r).mp hr).2.2.1, decide_eq_true ht⟩
    · rintro ⟨_, a⟩; exact of_decide_eq_true a
  have e := hp.length_eq
  have := List.length_filter_le (fun t => decide (t ∈ (gt Rs j).map plainR)) X
  rw [List.length_map] at e
  omega
theorem TFull.few2 (h : TFull was X i k Rs Lt) (hf : X.length ≤ 256) : Lt.length ≤ 256 := by
  have := h.late.length_eq
  have := List.length_filter_le (lowP was i k) X
  omega
theorem ring_few {W : List RThing} (hw : Wf W) (hX : Ids X) (hf : X.length ≤ 256) (h : ∀ r, r ∈ W → plainR r ∈ X) : W.length ≤ 256 := by
  have hn := (ids_plain hw).nodup
  have hp : (W.map plainR).Perm (X.filter fun t => decide (t ∈ W.map plainR)) := by
    refine perm_of hn (hX.sub List.filter_sublist).nodup fun t => ?_
    rw [List.mem_filter]
    constructor
    · intro ht
      obtain ⟨r, hr, rfl⟩ := List.mem_map.mp ht
      exact ⟨h r hr, decide_eq_true ht⟩
    · rintro ⟨_, a⟩; exact of_decide_eq_true a
  have e := hp.length_eq
  have := List.length_filter_le (fun t => decide (t ∈ W.map plainR)) X
  rw [List.length_map] at e
  omega
theorem TSame.few (h : TSame was to_ X i k Rs Lt) (hX : Ids X) (hf : X.length ≤ 256) (j0 : 0 ≤ j) (j1 : j < 4) : (gt Rs j).length ≤ 256 := ring_few (h.wf j j0 j1) hX hf fun r hr => ((h.rings j j0 j1 r).mp hr).1
theorem TSame.few2 (h : TSame was to_ X i k Rs Lt) (hf : X.length ≤ 256) : Lt.length ≤ 256 := by
  have := h.late.length_eq
  have := List.length_filter_le (lowS was to_ i k) X
  omega
/-! ### the ring that stands -/
theorem TSame.start (h : TFull was X i 0 Rs Lt) (h0 : 0 ≤ i) (h1 : i < 4) (hw : 0 ≤ was ∧ was ≤ to_) (hs : ∀ j : Int, 0 ≤ j → j < i → ¬ samI was to_ j) : TSame was to_ X i (shI was i % 64) Rs Lt := by
  refine ⟨h.len, h.wf, fun j j0 j1 r => ?_, h.late.trans (List.Perm.of_eq (List.filter_congr fun t _ => ?_))⟩
  · rw [h.rings j j0 j1]
    constructor
    · rintro ⟨a, b, c, d⟩
      refine ⟨c, ?_⟩
      by_cases e : j = i
      · subst e
        have := turn_start h0 h1 hw.1 (due := r.due) (by rw [d])
        rw [d] at this
        exact .inr (.inl ⟨rfl, Int.le_of_lt this, d⟩)
      · exact .inl ⟨by omega, d⟩
    · rintro ⟨c, a | a | a⟩
      · exact ⟨by omega, fun e => by omega, c, a.2⟩
      · have hr := place_rng was r.due
        rw [a.2.2] at hr
        exact ⟨by omega, fun _ => hr.2.2.1, c, a.2.2⟩
      · have := turn_start h0 h1 hw.1 (due := r.due) a.2.2.1
        omega
  · have hr := place_rng was t.due
    unfold lowP lowS
    rw [decide_eq_decide]
    constructor
    · intro q
      have q : (placeV was t.due).1 < i := by omega
      exact ⟨turn_late hw.2 hr.1 (by omega) (hs _ hr.1 q) rfl, .inl q⟩
    · rintro ⟨_, q | q⟩
      · exact .inl q
      · have := turn_start h0 h1 hw.1 (due := t.due) q.1
        omega
theorem TSame.slot (h : TSame was to_ X i k Rs Lt) (hX : Ids X) (h0 : 0 ≤ i) (h1 : i < 4) : (sortT (slotL (gt Rs i) k)).Perm (X.filter fun t => decide (placeV was t.due = (i, k))) := by
  refine slot_perm (h.wf i h0 h1) hX fun t => ?_
  rw [h.rings i h0 h1]
  constructor
  · rintro ⟨a, b | b | b⟩
    · omega
    · exact ⟨a, b.2.2⟩
    · omega
  · rintro ⟨a, b⟩; exact ⟨a, .inr (.inl ⟨rfl, Int.le_refl _, b⟩)⟩
/-- What goes down goes below. -/
theorem TSame.below (h : TSame was to_ X i k Rs Lt) (hX : Ids X) (h0 : 0 ≤ i) (h1 : i < 4) (hw : was ≤ to_) (hs : samI was to_ i) (hk : k ≤ shI to_ i % 64) : ∀ t, t ∈ sortT (slotL (gt Rs i) k) → to_ < t.due → (placeV to_ t.due).1 < i := by
  intro t ht hd
  have := List.mem_filter.mp ((h.slot hX h0 h1).mem_iff.mp ht)
  have e : placeV was t.due = (i, k) := of_decide_eq_true this.2
  refine turn_at hw h0 h1 hs (by rw [e]) ?_ hd
  rw [e]
  show k = _
  apply Classical.byContradiction
  intro hne
  have := turn_low hw h0 h1 hs (due := t.due) (by rw [e]) (by rw [e]; show k < _; omega)
  omega
theorem TSame.noFar (h : TSame was to_ X i k Rs Lt) (hX : Ids X) (h0 : 0 ≤ i) (h1 : i < 4) (hw : was ≤ to_) (hs : samI was to_ i) (hk : k ≤ shI to_ i % 64) : dnFar to_ (sortT (slotL (gt Rs i) k)) = [] := by
  refine List.filter_eq_nil_iff.mpr fun t ht => ?_
  have := h.below hX h0 h1 hw hs hk t ht
  simp
  intro hd
  have := this hd
  omega
theorem TSame.fresh (h : TSame was to_ X i k Rs Lt) (hX : Ids X) (h0 : 0 ≤ i) (h1 : i < 4) (hs : ∀ j : Int, 0 ≤ j → j < i → ¬ samI was to_ j) (hl : Rs2.length = 4) (hg : ∀ j : Int, 0 ≤ j → j < 4 → gt Rs2 j = if j = i then leftR (gt Rs i) k else gt Rs j) : ∀ t, t ∈ sortT (slotL (gt Rs i) k) → ∀ j : Int, 0 ≤ j → j < 4 → findR t.id (gt Rs2 j) = none := by
  intro t ht j j0 j1
  have hm := List.mem_filter.mp ((h.slot hX h0 h1).mem_iff.mp ht)
  have e : placeV was t.due = (i, k) := of_decide_eq_true hm.2
  refine findR_none.mpr fun r hr q => ?_
  have key : plainR r ∈ X ∧ placeV was r.due ≠ (i, k) := by
    rw [hg j j0 j1] at hr
    split at hr
    · rename_i ej
      rw [mem_leftR, h.rings i h0 h1] at hr
      exact ⟨hr.1.1, fun q => by
        rcases hr.1.2 with a | a | a
        · omega
        · rw [a.2.2] at q; exact hr.2 (congrArg Prod.snd q)
        · omega⟩
    · rename_i ej
      rw [h.rings j j0 j1] at hr
      exact ⟨hr.1, fun q => by
        rcases hr.2 with a | a | a
        · rw [a.2] at q; exact ej (congrArg Prod.fst q)
        · exact ej a.1
        · rw [q] at a; simp at a⟩
  have := hX.uniq hm.1 key.1 q
  subst this
  exact key.2 e
theorem TSame.step (h : TSame was to_ X i k Rs Lt) (hX : Ids X) (h0 : 0 ≤ i) (h1 : i < 4) (hw : was ≤ to_) (hs : samI was to_ i) (hk : k ≤ shI to_ i % 64) (hl : Rs2.length = 4) (hwf : ∀ j : Int, 0 ≤ j → j < 4 → Wf (gt Rs2 j))
    (hg : ∀ j : Int, 0 ≤ j → j < 4 → gt Rs2 j = (if j = i then leftR (gt Rs i) k else gt Rs j) ++ dnRing to_ (sortT (slotL (gt Rs i) k)) j) : TSame was to_ X i (k + 1) Rs2 (Lt ++ dnLate to_ (sortT (slotL (gt Rs i) k))) := by
  have hsl := h.slot hX h0 h1
  have hdn : ∀ j r, r ∈ dnRing to_ (sortT (slotL (gt Rs i) k)) j ↔ plainR r ∈ X ∧ placeV was r.due = (i, k) ∧ to_ < r.due ∧ placeV to_ r.due = (j, r.slot) := by
    intro j r
    unfold dnRing
    rw [List.mem_map]
    constructor
    · rintro ⟨t, ht, rfl⟩
      have a := List.mem_filter.mp ht
      have b := List.mem_filter.mp (hsl.mem_iff.mp a.1)
      have c : to_ < t.due ∧ (placeV to_ t.due).1 = j := of_decide_eq_true a.2
      exact ⟨b.1, of_decide_eq_true b.2, c.1, by show placeV to_ t.due = (j, (placeV to_ t.due).2); rw [← c.2]⟩
    · rintro ⟨a, b, c, d⟩
      refine ⟨plainR r, List.mem_filter.mpr ⟨hsl.mem_iff.mpr (List.mem_filter.mpr ⟨a, decide_eq_true b⟩), decide_eq_true ⟨c, ?_⟩⟩, ?_⟩
      · show (placeV to_ r.due).1 = j; rw [d]
      · show toR (plainR r) (placeV to_ r.due).2 = r
        rw [d]; cases r; rfl
  refine ⟨hl, hwf, fun j j0 j1 r => ?_, ?_⟩
  · rw [hg j j0 j1, List.mem_append, hdn]
    have hbelow : placeV was r.due = (i, k) → plainR r ∈ X → to_ < r.due → (placeV to_ r.due).1 < i := fun e hx hd =>
      h.below hX h0 h1 hw hs hk (plainR r) (hsl.mem_iff.mpr (List.mem_filter.mpr ⟨hx, decide_eq_true e⟩)) hd
    by_cases e : j = i
    · subst e
      rw [if_pos rfl, mem_leftR, h.rings j j0 j1]
      constructor
      · rintro (⟨⟨a, b | b | b⟩, c⟩ | ⟨a, b, c, d⟩)
        · omega
        · exact ⟨a, .inr (.inl ⟨rfl, by omega, b.2.2⟩)⟩
        · omega
        · have := hbelow b a c; rw [d] at this; simp at this
      · rintro ⟨a, b | b | b⟩
        · omega
        · exact .inl ⟨⟨a, .inr (.inl ⟨rfl, by omega, b.2.2⟩)⟩, by omega⟩
        · omega
    · rw [if_neg e, h.rings j j0 j1]
      constructor
      · rintro (⟨a, b | b | b⟩ | ⟨a, b, c, d⟩)
        · exact ⟨a, .inl b⟩
        · exact absurd b.1 e
        · exact ⟨a, .inr (.inr ⟨b.1, b.2.1, b.2.2.1, by omega, b.2.2.2.2⟩)⟩
        · have hlt := hbelow b a c
          rw [d] at hlt
          exact ⟨a, .inr (.inr ⟨hlt, c, by rw [b], by rw [b]; show k < k + 1; omega, d⟩)⟩
      · rintro ⟨a, b | b | b⟩
        · exact .inl ⟨a, .inl b⟩
        · exact absurd b.1 e
        · by_cases q : (placeV was r.due).2 = k
          · exact .inr ⟨a, by rw [← b.2.2.1, ← q], b.2.1, b.2.2.2.2⟩
          · exact .inl ⟨a, .inr (.inr ⟨b.1, b.2.1, b.2.2.1, by omega, b.2.2.2.2⟩)⟩
  · have hp : (dnLate to_ (sortT (slotL (gt Rs i) k))).Perm (X.filter fun t => decide (t.due ≤ to_ ∧ placeV was t.due = (i, k))) := by
      refine (hsl.filter _).trans (List.Perm.of_eq ?_)
      rw [List.filter_filter]
      exact List.filter_congr fun t _ => by rw [Bool.eq_iff_iff]; simp
    refine (h.late.append hp).trans ((filter_or _ _ (fun t q => ?_) X).trans (List.Perm.of_eq (List.filter_congr fun t _ => ?_)))
    · unfold lowS at q
      have q := of_decide_eq_true q
      refine decide_eq_false fun e => ?_
      rw [e.2] at q
      simp at q
    · unfold lowS
      rw [Bool.eq_iff_iff]
      simp only [Bool.or_eq_true, decide_eq_true_eq, Prod.ext_iff]
      omega
theorem TSame.stop (h : TSame was to_ X i k Rs Lt) (hW : ∀ t, t ∈ Fv ↔ t ∈ X ∧ (placeV was t.due).1 = 4) (hk : Ids Fv) (hX : Ids X) (hf : X.length ≤ 256) (hd : ∀ t, t ∈ X → 0 ≤ t.due ∧ t.due ≤ 1125899906842624) (hlt : ∀ t, t ∈ X → was < t.due) (h0 : 0 ≤ i) (h1 : i < 4) (hw : 0 ≤ was ∧ was ≤ to_ ∧ to_ ≤ 1125899906842624)
    (hn : ∀ j : Int, 0 ≤ j → j < i → ¬ samI was to_ j) (hs : samI was to_ i) (hend : k = shI to_ i % 64 + 1) : WRel to_ (X.filter fun t => decide (to_ < t.due)) Rs Fv ∧ Lt.Perm (X.filter fun t => decide (t.due ≤ to_)) := by
  have low : ∀ due, (placeV was due).1 < i → due ≤ to_ := fun due q => turn_late hw.2.1 (place_rng was due).1 (by omega) (hn _ (place_rng was due).1 q) rfl
  have at_ : ∀ due, (placeV was due).1 = i → to_ < due → (((placeV was due).2 ≤ shI to_ i % 64 ∧ (placeV to_ due).1 < i) ∨ (shI to_ i % 64 < (placeV was due).2 ∧ placeV to_ due = placeV was due)) := fun due q hd => by
    rcases Int.lt_trichotomy (placeV was due).2 (shI to_ i % 64) with a | a | a
    · have := turn_low hw.2.1 h0 h1 hs q a; omega
    · exact .inl ⟨by omega, turn_at hw.2.1 h0 h1 hs q a hd⟩
    · exact .inr ⟨a, (turn_high hw.2.1 h0 h1 hs q a).2⟩
  have up : ∀ due, i < (placeV was due).1 → was < due → to_ < due ∧ placeV to_ due = placeV was due := fun due q hd => turn_up hw.2.1 h0 h1 hs q hd
  refine ⟨⟨⟨by omega, hw.2.2⟩, hX.sub List.filter_sublist, fun t ht => hd t (List.filter_sublist.subset ht), Nat.le_trans (List.length_filter_le _ _) hf, h.len, h.wf, fun j j0 j1 r => ?_, hk, fun t => ?_⟩, ?_⟩
  · rw [h.rings j j0 j1, List.mem_filter]
    constructor
    · rintro ⟨a, b | b | b⟩
      · have := up r.due (by rw [b.2]; exact b.1) (hlt _ a)
        exact ⟨⟨a, decide_eq_true this.1⟩, by rw [this.2]; exact b.2⟩
      · have q : (placeV was r.due).1 = i := by rw [b.2.2]; exact b.1
        have hgt : shI to_ i % 64 < (placeV was r.due).2 := by rw [b.2.2]; show _ < r.slot; omega
        have := turn_high hw.2.1 h0 h1 hs q hgt
        exact ⟨⟨a, decide_eq_true this.1⟩, by rw [this.2]; exact b.2.2⟩
      · exact ⟨⟨a, decide_eq_true b.2.1⟩, b.2.2.2.2⟩
    · rintro ⟨⟨a, b⟩, c⟩
      have b : to_ < r.due := of_decide_eq_true b
      refine ⟨a, ?_⟩
      rcases Int.lt_trichotomy (placeV was r.due).1 i with q | q | q
      · have := low r.due q; omega
      · rcases at_ r.due q b with e | e
        · rw [c] at e
          exact .inr (.inr ⟨e.2, b, q, by omega, c⟩)
        · rw [c] at e
          have ej : j = i := by rw [← q, ← e.2]
          refine .inr (.inl ⟨ej, ?_, e.2.symm⟩)
          have : (placeV was r.due).2 = r.slot := by rw [← e.2]
          omega
      · have := up r.due q (hlt _ a)
        rw [c] at this
        exact .inl ⟨by rw [← this.2] at q; exact q, this.2.symm⟩
  · rw [List.mem_filter, hW]
    constructor
    · rintro ⟨a, b⟩
      have := up t.due (by omega) (hlt _ a)
      exact ⟨⟨a, decide_eq_true this.1⟩, by rw [this.2]; exact b⟩
    · rintro ⟨⟨a, b⟩, c⟩
      have b : to_ < t.due := of_decide_eq_true b
      refine ⟨a, ?_⟩
      rcases Int.lt_trichotomy (placeV was t.due).1 i with q | q | q
      · have := low t.due q; omega
      · rcases at_ t.due q b with e | e
        · omega
        · rw [e.2] at c; omega
      · have := up t.due q (hlt _ a)
        rw [← this.2]; exact c
  · refine h.late.trans (List.Perm.of_eq (List.filter_congr fun t ht => ?_))
    unfold lowS
    rw [decide_eq_decide]
    constructor
    · rintro ⟨a, _⟩; exact a
    · intro a
      refine ⟨a, ?_⟩
      rcases Int.lt_trichotomy (placeV was t.due).1 i with q | q | q
      · exact .inl q
      · refine .inr ⟨q, ?_⟩
        apply Classical.byContradiction
        intro hge
        have := turn_high hw.2.1 h0 h1 hs q (by omega)
        omega
      · have := up t.due q (hlt _ ht); omega
/-! ### beyond the rings -/
theorem same_le (hw : was ≤ to_) (h0 : 0 ≤ i) (h1 : i < 4) (hs : samI was to_ i) : shI was i % 64 ≤ shI to_ i % 64 := by
  rcases four h0 h1 with rfl | rfl | rfl | rfl <;> simp [samI, shI] at hs ⊢ <;> omega
theorem TFull.empty (h : TFull was X 4 0 Rs Lt) (j0 : 0 ≤ j) (j1 : j < 4) : gt Rs j = [] := by
  refine List.eq_nil_iff_forall_not_mem.mpr fun r hr => ?_
  have := (h.rings j j0 j1 r).mp hr
  omega
theorem dn_app (A B : List Thing) : dnLate to_ (A ++ B) = dnLate to_ A ++ dnLate to_ B ∧ dnFar to_ (A ++ B) = dnFar to_ A ++ dnFar to_ B ∧ ∀ j, dnRing to_ (A ++ B) j = dnRing to_ A j ++ dnRing to_ B j := by
  unfold dnLate dnFar dnRing
  exact ⟨List.filter_append .., List.filter_append .., fun j => by rw [List.filter_append, List.map_append]⟩
theorem vis_fresh (hV : Vis E V) (hE : FarE Fv E ck) (hk : Ids Fv) {e : Int × Thing × Nat} (he : e ∈ E) (hn : e.2.2 ∉ seenOf V) : ∀ u, u ∈ V.map (·.2.1) → e.2.1.id ≠ u.id := by
  intro u hu q
  obtain ⟨p, hp, rfl⟩ := List.mem_map.mp hu
  have hpE := hV.sub p hp
  have := key_inj (hE.keys hk) hpE he (by rw [hE.key p hpE, hE.key e he]; exact q.symm)
  subst this
  exact hn ((hV.seen hE.born hpE).mpr hp)
theorem far_fresh {L : List Thing} (h : ∀ u, u ∈ L → t.id ≠ u.id) : findT t.id (dnFar to_ L) = none ∧ ∀ j, findR t.id (dnRing to_ L j) = none := by
  refine ⟨findT_none.mpr fun u hu => h u (List.filter_sublist.subset hu), fun j => findR_none.mpr fun r hr => ?_⟩
  unfold dnRing at hr
  obtain ⟨u, hu, rfl⟩ := List.mem_map.mp hr
  exact h u (List.filter_sublist.subset hu)
theorem far_end {L : List Thing} (h : TFull was X 4 0 Rs Lt) (hp : L.Perm Fv) (hW : ∀ t, t ∈ Fv ↔ t ∈ X ∧ (placeV was t.due).1 = 4) (hk : Ids Fv) (hX : Ids X) (hf : X.length ≤ 256) (hd : ∀ t, t ∈ X → 0 ≤ t.due ∧ t.due ≤ 1125899906842624) (hw : 0 ≤ was ∧ was ≤ to_ ∧ to_ ≤ 1125899906842624)
    (hn : ∀ j : Int, 0 ≤ j → j < 4 → ¬ samI was to_ j) (hl : Rs2.length = 4) (hwf : ∀ j : Int, 0 ≤ j → j < 4 → Wf (gt Rs2 j)) (hg : ∀ j : Int, 0 ≤ j → j < 4 → gt Rs2 j = dnRing to_ L j) :
    WRel to_ (X.filter fun t => decide (to_ < t.due)) Rs2 (dnFar to_ L) ∧ (Lt ++ dnLate to_ L).Perm (X.filter fun t => decide (t.due ≤ to_)) := by
  have low : ∀ due, (placeV was due).1 < 4 → due ≤ to_ := fun due q => turn_late hw.2.1 (place_rng was due).1 q (hn _ (place_rng was due).1 q) rfl
  have hL : ∀ t, t ∈ L ↔ t ∈ X ∧ (placeV was t.due).1 = 4 := fun t => hp.mem_iff.trans (hW t)
  have mem4 : ∀ t, t ∈ X → to_ < t.due → t ∈ L := fun t ht hd => by
    rw [hL]
    refine ⟨ht, ?_⟩
    have := place_rng was t.due
    apply Classical.byContradiction
    intro q
    have := low t.due (by omega)
    omega
  refine ⟨⟨⟨by omega, hw.2.2⟩, hX.sub List.filter_sublist, fun t ht => hd t (List.filter_sublist.subset ht), Nat.le_trans (List.length_filter_le _ _) hf, hl, hwf, fun j j0 j1 r => ?_, (hk.perm hp.symm).sub List.filter_sublist, fun t => ?_⟩, ?_⟩
  · rw [hg j j0 j1, List.mem_filter]
    unfold dnRing
    rw [List.mem_map]
    constructor
    · rintro ⟨t, ht, rfl⟩
      have a := List.mem_filter.mp ht
      have b : to_ < t.due ∧ (placeV to_ t.due).1 = j := of_decide_eq_true a.2
      exact ⟨⟨((hL t).mp a.1).1, decide_eq_true b.1⟩, by show placeV to_ t.due = (j, (placeV to_ t.due).2); rw [← b.2]⟩
    · rintro ⟨⟨a, b⟩, c⟩
      have b : to_ < r.due := of_decide_eq_true b
      refine ⟨plainR r, List.mem_filter.mpr ⟨mem4 _ a b, decide_eq_true ⟨b, ?_⟩⟩, ?_⟩
      · show (placeV to_ r.due).1 = j; rw [c]
      · show toR (plainR r) (placeV to_ r.due).2 = r
        rw [c]; cases r; rfl
  · unfold dnFar
    rw [List.mem_filter, List.mem_filter]
    constructor
    · rintro ⟨a, b⟩
      have b : to_ < t.due ∧ (placeV to_ t.due).1 = 4 := of_decide_eq_true b
      exact ⟨⟨((hL t).mp a).1, decide_eq_true b.1⟩, b.2⟩
    · rintro ⟨⟨a, b⟩, c⟩
      have b : to_ < t.due := of_decide_eq_true b
      exact ⟨mem4 t a b, decide_eq_true ⟨b, c⟩⟩
  · have h2 : (dnLate to_ L).Perm (X.filter fun t => decide (t.due ≤ to_ ∧ (placeV was t.due).1 = 4)) := by
      refine perm_of ((hk.perm hp.symm).sub List.filter_sublist).nodup (hX.sub List.filter_sublist).nodup fun t => ?_
      unfold dnLate
      rw [List.mem_filter, List.mem_filter, hL]
      constructor
      · rintro ⟨⟨a, b⟩, c⟩; exact ⟨a, decide_eq_true ⟨of_decide_eq_true c, b⟩⟩
      · rintro ⟨a, b⟩
        have b : t.due ≤ to_ ∧ (placeV was t.due).1 = 4 := of_decide_eq_true b
        exact ⟨⟨a, b.2⟩, decide_eq_true b.1⟩
    refine (h.late.append h2).trans ((filter_or _ _ (fun t q => ?_) X).trans (List.Perm.of_eq (List.filter_congr fun t _ => ?_)))
    · unfold lowP at q
      have q := of_decide_eq_true q
      refine decide_eq_false fun e => ?_
      have hr := place_rng was t.due
      omega
    · have hr := place_rng was t.due
      unfold lowP
      rw [Bool.eq_iff_iff]
      simp only [Bool.or_eq_true, decide_eq_true_eq]
      constructor
      · rintro (q | q)
        · exact low t.due (by omega)
        · exact q.1
      · intro q
        by_cases e : (placeV was t.due).1 = 4
        · exact .inr ⟨q, e⟩
        · exact .inl (.inl (by omega))
/-! ### an advance -/
def advE (now to_ : Int) : Int := if ¬ (0 ≤ to_ ∧ to_ ≤ 1125899906842624) then 2 else if to_ < now then 34 else 0
def advF (now to_ : Int) (X : List Thing) : List Thing := if advE now to_ = 0 then sortT (X.filter fun t => decide (t.due ≤ to_)) else []
def advX (now to_ : Int) (X : List Thing) : List Thing := if advE now to_ = 0 then X.filter fun t => decide (to_ < t.due) else X
def advN (now to_ : Int) : Int := if advE now to_ = 0 then to_ else now
theorem advE_zero {now : Int} (h : (0 ≤ to_ ∧ to_ ≤ 1125899906842624) ∧ now ≤ to_) : advE now to_ = 0 := by unfold advE; rw [if_neg (by omega), if_neg (by omega)]
theorem adv_perm {now : Int} {l1 l2 : List Thing} (h : now ≤ to_) (h1 : l1.Perm (X.filter fun t => decide (t.due ≤ now))) (h2 : l2.Perm ((X.filter fun t => decide (now < t.due)).filter fun t => decide (t.due ≤ to_))) : (l1 ++ l2).Perm (X.filter fun t => decide (t.due ≤ to_)) := by
  rw [List.filter_filter] at h2
  refine (h1.append h2).trans ((filter_or _ _ (fun t q => ?_) X).trans (List.Perm.of_eq (List.filter_congr fun t _ => ?_)))
  · have q := of_decide_eq_true q
    simp; omega
  · rw [Bool.eq_iff_iff]; simp; omega
theorem adv_rest {now : Int} (h : now ≤ to_) : ((X.filter fun t => decide (now < t.due)).filter fun t => decide (to_ < t.due)) = X.filter fun t => decide (to_ < t.due) := by
  rw [List.filter_filter]
  exact List.filter_congr fun t _ => by rw [Bool.eq_iff_iff]; simp; omega
end
end Go.Proofs.Ytblipnjjgbggiaa
