/- A wheel: going through what is beyond the rings, through the slots; what goes down. The plain mathematics. Conditions: none. -/
import Derived.Test.YtblipnjjgbggiaaWheelM
namespace Go.Proofs.Ytblipnjjgbggiaa
open Go Go.RowKit
set_option linter.unusedVariables false
set_option linter.unusedSectionVars false
set_option linter.unusedSimpArgs false
section
variable {now to_ i k j : Int} {X Y Fv l : List Thing} {Rs Rs2 : List (List RThing)} {t : Thing} {E V Ec : List (Int × Thing × Nat)} {ck : Nat}
theorem WRel.same (h : WRel now X Rs Fv) (hl : Rs2.length = 4) (hg : ∀ i : Int, 0 ≤ i → i < 4 → gt Rs2 i = gt Rs i) : WRel now X Rs2 Fv :=
  ⟨h.now0, h.ids, h.dues, h.few, hl, fun i h0 h1 => by rw [hg i h0 h1]; exact h.wf i h0 h1, fun i h0 h1 r => by rw [hg i h0 h1]; exact h.ring i h0 h1 r, h.keys, h.far⟩
theorem WRel.refar (h : WRel now X Rs Fv) (hk : Ids Y) (hm : ∀ t, t ∈ Y ↔ t ∈ Fv) : WRel now X Rs Y :=
  ⟨h.now0, h.ids, h.dues, h.few, h.len, h.wf, h.ring, hk, fun t => (hm t).trans (h.far t)⟩
/-! ### all that a map has -/
theorem FarE.nodupE (h : FarE Fv E ck) : E.Nodup := List.Pairwise.of_map (·.2.2) (fun a b hab e => hab (by rw [e])) h.born
theorem Vis.nodupV (h : Vis E V) : V.Nodup := List.Pairwise.of_map (·.2.2) (fun a b hab e => hab (by rw [e])) h.nodup
theorem Vis.permE (h : Vis E V) (hE : FarE Fv E ck) (hall : ∀ p, p ∈ E → p.2.2 ∈ seenOf V) : V.Perm E :=
  (List.perm_ext_iff_of_nodup h.nodupV hE.nodupE).mpr fun p => ⟨h.sub p, fun hp => (h.seen hE.born hp).mp (hall p hp)⟩
theorem Vis.permF (h : Vis E V) (hE : FarE Fv E ck) (hall : ∀ p, p ∈ E → p.2.2 ∈ seenOf V) : (V.map (·.2.1)).Perm Fv := by
  rw [← hE.vals]; exact (h.permE hE hall).map _
theorem vals_snoc {e : Int × Thing × Nat} : V.map (·.2.1) ++ [e.2.1] = (V ++ [e]).map (·.2.1) := by simp
def lateOf (now : Int) (V : List (Int × Thing × Nat)) : List Thing := (V.map (·.2.1)).filter fun t => decide (t.due ≤ now)
theorem lateOf_in {e : Int × Thing × Nat} (h : e.2.1.due ≤ now) : lateOf now (V ++ [e]) = lateOf now V ++ [e.2.1] := by simp [lateOf, h]
theorem lateOf_out {e : Int × Thing × Nat} (h : ¬ e.2.1.due ≤ now) : lateOf now (V ++ [e]) = lateOf now V := by simp [lateOf, h]
theorem lateOf_le (h : Vis E V) : (lateOf now V).length ≤ E.length := Nat.le_trans (List.length_filter_le _ _) (by rw [List.length_map]; exact h.le)
def LateInv (now : Int) (E V Ec : List (Int × Thing × Nat)) : Prop := Vis E V ∧ Ec.Sublist E ∧ ∀ p, p ∈ E → (p ∈ Ec ↔ ¬ (p ∈ V ∧ p.2.1.due ≤ now))
theorem late_start : LateInv now E [] E := ⟨Vis.nil, List.Sublist.refl _, fun p hp => by simp [hp]⟩
theorem key_inj (hk : (E.map (·.1)).Nodup) {p q : Int × Thing × Nat} (hp : p ∈ E) (hq : q ∈ E) (h : p.1 = q.1) : p = q := by
  induction E with
  | nil => cases hp
  | cons a E ih =>
    rw [List.map_cons, List.nodup_cons] at hk
    rcases List.mem_cons.mp hp with h1 | h1
    · rcases List.mem_cons.mp hq with h2 | h2
      · rw [h1, h2]
      · exact absurd (List.mem_map.mpr ⟨q, h2, by rw [← h, h1]⟩) hk.1
    · rcases List.mem_cons.mp hq with h2 | h2
      · exact absurd (List.mem_map.mpr ⟨p, h1, by rw [h, h2]⟩) hk.1
      · exact ih hk.2 h1 h2
theorem late_in (h : LateInv now E V Ec) (hk : (E.map (·.1)).Nodup) {e : Int × Thing × Nat} (he : e ∈ Ec) (hs : e.2.2 ∉ seenOf V) (hd : e.2.1.due ≤ now) : LateInv now E (V ++ [e]) (mdel e.1 Ec) := by
  obtain ⟨h1, h2, h3⟩ := h
  have heE := h2.subset he
  refine ⟨h1.snoc heE hs, mdel_sub.trans h2, fun p hp => ?_⟩
  rw [mem_mdel (List.Nodup.sublist (h2.map _) hk), h3 p hp, List.mem_append, List.mem_singleton]
  constructor
  · rintro ⟨a, b⟩ ⟨c | c, d⟩
    · exact a ⟨c, d⟩
    · exact b (by rw [c])
  · intro a
    refine ⟨fun c => a ⟨.inl c.1, c.2⟩, fun c => ?_⟩
    have := key_inj hk hp heE c
    subst this
    exact a ⟨.inr rfl, hd⟩
theorem late_out (h : LateInv now E V Ec) {e : Int × Thing × Nat} (he : e ∈ Ec) (hs : e.2.2 ∉ seenOf V) (hd : ¬ e.2.1.due ≤ now) : LateInv now E (V ++ [e]) Ec := by
  obtain ⟨h1, h2, h3⟩ := h
  refine ⟨h1.snoc (h2.subset he) hs, h2, fun p hp => ?_⟩
  rw [h3 p hp, List.mem_append, List.mem_singleton]
  constructor
  · rintro a ⟨c | c, d⟩
    · exact a ⟨c, d⟩
    · subst c; exact hd d
  · intro a c; exact a ⟨.inl c.1, c.2⟩
theorem late_end (h : LateInv now E V Ec) (hE : FarE Fv E ck) (hall : ∀ p, p ∈ Ec → p.2.2 ∈ seenOf V) (hW : WRel now X Rs Fv) :
    (lateOf now V).Perm (X.filter fun t => decide (t.due ≤ now)) ∧ FarE (Ec.map (·.2.1)) Ec ck ∧ WRel now (X.filter fun t => decide (now < t.due)) Rs (Ec.map (·.2.1)) := by
  obtain ⟨h1, h2, h3⟩ := h
  have hV : ∀ p, p ∈ E → p.2.1.due ≤ now → p ∈ V := fun p hp hd => by
    apply Classical.byContradiction
    intro hn
    have := (h3 p hp).mpr fun c => hn c.1
    exact hn ((h1.seen hE.born hp).mp (hall p this))
  have hids : Ids (E.map (·.2.1)) := by rw [hE.vals]; exact hW.keys
  have hidV : Ids (V.map (·.2.1)) := by
    have e : (V.map (·.2.1)).map (·.id) = V.map (·.1) := by
      rw [List.map_map]; exact List.map_congr_left fun p hp => (hE.key p (h1.sub p hp)).symm
    show ((V.map (·.2.1)).map (·.id)).Nodup
    rw [e]
    refine List.Pairwise.map _ (fun a b hab => hab) ?_
    refine h1.nodupV.imp_of_mem fun {a b} ha hb hne q => hne (key_inj (hE.keys hW.keys) (h1.sub a ha) (h1.sub b hb) q)
  refine ⟨?_, ⟨rfl, fun e he => hE.key e (h2.subset he), List.Nodup.sublist (h2.map _) hE.born, fun e he => hE.old e (h2.subset he)⟩, ?_⟩
  · refine perm_of (List.Nodup.sublist List.filter_sublist hidV.nodup) (hW.ids.sub List.filter_sublist).nodup fun t => ?_
    unfold lateOf
    rw [List.mem_filter, List.mem_filter, List.mem_map]
    constructor
    · rintro ⟨⟨p, hp, rfl⟩, hd⟩
      exact ⟨((hW.far _).mp (hE.mem.mpr ⟨p, h1.sub p hp, rfl⟩)).1, hd⟩
    · rintro ⟨ht, hd⟩
      have h4 : (placeV now t.due).1 = 4 := by rw [place_old (of_decide_eq_true hd)]
      obtain ⟨p, hp, rfl⟩ := hE.mem.mp ((hW.far t).mpr ⟨ht, h4⟩)
      exact ⟨⟨p, hV p hp (of_decide_eq_true hd), rfl⟩, hd⟩
  · refine hW.late.refar (hids.sub (h2.map _)) fun t => ?_
    rw [List.mem_map, List.mem_filter, hE.mem]
    constructor
    · rintro ⟨p, hp, rfl⟩
      refine ⟨⟨p, h2.subset hp, rfl⟩, decide_eq_true ?_⟩
      apply Classical.byContradiction
      intro hd
      have hd : p.2.1.due ≤ now := Int.not_lt.mp hd
      exact (h3 p (h2.subset hp)).mp hp ⟨hV p (h2.subset hp) hd, hd⟩
    · rintro ⟨⟨p, hp, rfl⟩, hd⟩
      exact ⟨p, (h3 p hp).mpr fun c => by have := of_decide_eq_true hd; omega, rfl⟩
/-! ### all, slot by slot -/
theorem filter_or (p q : Thing → Bool) (h : ∀ x, p x = true → q x = false) : ∀ (X : List Thing), (X.filter p ++ X.filter q).Perm (X.filter fun x => p x || q x)
  | [] => List.Perm.refl _
  | x :: X => by
    have ih := filter_or p q h X
    by_cases hp : p x = true
    · have hq := h x hp
      rw [List.filter_cons_of_pos hp, List.filter_cons_of_neg (by rw [hq]; simp), List.filter_cons_of_pos (by simp [hp])]
      exact ih.cons x
    · by_cases hq : q x = true
      · rw [List.filter_cons_of_neg hp, List.filter_cons_of_pos hq, List.filter_cons_of_pos (by simp [hq])]
        exact List.perm_middle.trans (ih.cons x)
      · rw [List.filter_cons_of_neg hp, List.filter_cons_of_neg hq, List.filter_cons_of_neg (by simp [hp, hq])]
        exact ih
theorem mem_slotL {W : List RThing} : t ∈ slotL W k ↔ toR t k ∈ W := by
  unfold slotL
  rw [List.mem_map]
  constructor
  · rintro ⟨r, hr, rfl⟩
    have := List.mem_filter.mp hr
    have e : r.slot = k := of_decide_eq_true this.2
    have e2 : toR (plainR r) k = r := by cases r; subst e; rfl
    rw [e2]; exact this.1
  · intro h; exact ⟨toR t k, List.mem_filter.mpr ⟨h, by simp [toR]⟩, rfl⟩
theorem WRel.slotPerm (h : WRel now X Rs Fv) (h0 : 0 ≤ i) (h1 : i < 4) : (slotL (gt Rs i) k).Perm (X.filter fun t => decide (placeV now t.due = (i, k))) := by
  refine perm_of ?_ (h.ids.sub List.filter_sublist).nodup fun t => ?_
  · unfold slotL
    exact List.Nodup.sublist (List.filter_sublist.map _) (ids_plain (h.wf i h0 h1)).nodup
  · rw [mem_slotL, List.mem_filter, h.ring i h0 h1]
    show plainR (toR t k) ∈ X ∧ placeV now t.due = (i, k) ↔ _
    rw [show plainR (toR t k) = t from rfl]; simp
def allP (now i k : Int) (t : Thing) : Bool := decide ((placeV now t.due).1 = 4 ∨ (placeV now t.due).1 < i ∨ ((placeV now t.due).1 = i ∧ (placeV now t.due).2 < k))
theorem all_step (h : WRel now X Rs Fv) (h0 : 0 ≤ i) (h1 : i < 4) (hl : l.Perm (X.filter (allP now i k))) : (l ++ sortT (slotL (gt Rs i) k)).Perm (X.filter (allP now i (k + 1))) := by
  refine (hl.append ((sortT_perm _).trans (h.slotPerm h0 h1))).trans ((filter_or _ _ (fun t q => ?_) X).trans (List.Perm.of_eq (List.filter_congr fun t _ => ?_)))
  · unfold allP at q
    have q := of_decide_eq_true q
    refine decide_eq_false fun e => ?_
    rw [e] at q
    simp at q; omega
  · unfold allP
    rw [Bool.eq_iff_iff]
    simp only [Bool.or_eq_true, decide_eq_true_eq, Prod.ext_iff]
    omega
theorem all_skip (h : WRel now X Rs Fv) (h0 : 0 ≤ i) (h1 : i < 4) (hn : slotL (gt Rs i) k = []) (hl : l.Perm (X.filter (allP now i k))) : l.Perm (X.filter (allP now i (k + 1))) := by
  have := all_step h h0 h1 hl
  rw [hn] at this
  have e : sortT [] = [] := rfl
  rwa [e, List.append_nil] at this
theorem all_ring (hl : l.Perm (X.filter (allP now i 0))) : l.Perm (X.filter fun t => decide ((placeV now t.due).1 = 4 ∨ (placeV now t.due).1 < i)) := by
  refine hl.trans (List.Perm.of_eq (List.filter_congr fun t _ => ?_))
  have := place_rng now t.due
  unfold allP
  rw [decide_eq_decide]; omega
theorem all_next (h : WRel now X Rs Fv) (h0 : 0 ≤ i) (h1 : i < 4) (k0 : 0 ≤ k) (hz : usedN (gt Rs i) >>> k.toNat = 0) (hl : l.Perm (X.filter (allP now i k))) : l.Perm (X.filter (allP now (i + 1) 0)) := by
  refine hl.trans (List.Perm.of_eq (List.filter_congr fun t ht => ?_))
  have hr := place_rng now t.due
  unfold allP
  rw [decide_eq_decide]
  constructor
  · omega
  · rintro (q | q | q)
    · exact .inl q
    · by_cases e : (placeV now t.due).1 = i
      · refine .inr (.inr ⟨e, ?_⟩)
        apply Classical.byContradiction
        intro hk
        have hm : t ∈ slotL (gt Rs i) (placeV now t.due).2 := by
          rw [mem_slotL, h.ring i h0 h1]
          exact ⟨ht, by show placeV now t.due = (i, (placeV now t.due).2); rw [← e]⟩
        have hb := usedN_slot (h.wf i h0 h1) (k := (placeV now t.due).2) hr.2.2.1
        rw [decide_eq_true (show slotL (gt Rs i) (placeV now t.due).2 ≠ [] by intro q; rw [q] at hm; cases hm)] at hb
        have hs := Nat.testBit_shiftRight (usedN (gt Rs i)) (i := k.toNat) (j := (placeV now t.due).2.toNat - k.toNat)
        rw [hz, Nat.zero_testBit, show k.toNat + ((placeV now t.due).2.toNat - k.toNat) = (placeV now t.due).2.toNat by omega, hb] at hs
        cases hs
      · exact .inr (.inl (by omega))
    · omega
theorem all_end (h : WRel now X Rs Fv) (hl : l.Perm (X.filter (allP now 4 0))) : sortT l = sortT X := by
  have e : X.filter (allP now 4 0) = X := List.filter_eq_self.mpr fun t _ => by
    have := place_rng now t.due
    exact decide_eq_true (by omega)
  rw [e] at hl
  exact (sort_eq h.ids hl.symm).symm
theorem all_start (h : WRel now X Rs Fv) (hl : l.Perm Fv) : l.Perm (X.filter (allP now 0 0)) := by
  refine hl.trans (h.farPerm.trans (List.Perm.of_eq (List.filter_congr fun t _ => ?_)))
  have := place_rng now t.due
  unfold allP
  rw [decide_eq_decide]; omega
theorem bit_on {W : List RThing} (hw : Wf W) (h0 : 0 ≤ k) : ((usedN W >>> k.toNat &&& 1 : Nat) : Int) = 1 ↔ slotL W k ≠ [] := by
  have hb := usedN_slot hw h0
  have e : (usedN W).testBit k.toNat = decide (usedN W >>> k.toNat &&& 1 = 1) := by
    unfold Nat.testBit
    rw [Nat.and_comm]
    rw [Nat.and_one_is_mod]
    rcases Nat.mod_two_eq_zero_or_one (usedN W >>> k.toNat) with h | h <;> rw [h] <;> rfl
  rw [e] at hb
  have := decide_eq_decide.mp hb
  rw [← this]
  omega
theorem shr_zero64 {W : List RThing} (hw : Wf W) (hk : 64 ≤ k) : usedN W >>> k.toNat = 0 := by
  rw [Nat.shiftRight_eq_div_pow]
  refine Nat.div_eq_of_lt (Nat.lt_of_lt_of_le (usedN_lt hw) (Nat.pow_le_pow_right (by decide) (by omega)))
/-! ### what goes down -/
def dnLate (to_ : Int) (l : List Thing) : List Thing := l.filter fun t => decide (t.due ≤ to_)
def dnFar (to_ : Int) (l : List Thing) : List Thing := l.filter fun t => decide (to_ < t.due ∧ (placeV to_ t.due).1 = 4)
def dnRing (to_ : Int) (l : List Thing) (j : Int) : List RThing := (l.filter fun t => decide (to_ < t.due ∧ (placeV to_ t.due).1 = j)).map fun t => toR t (placeV to_ t.due).2
theorem dnLate_in (h0 : 0 ≤ i) (h1 : i < l.length) (h : (gt l i).due ≤ to_) : dnLate to_ (l.take (i + 1).toNat) = dnLate to_ (l.take i.toNat) ++ [gt l i] ∧ dnFar to_ (l.take (i + 1).toNat) = dnFar to_ (l.take i.toNat) ∧ ∀ j, dnRing to_ (l.take (i + 1).toNat) j = dnRing to_ (l.take i.toNat) j := by
  have hn : ¬ to_ < (gt l i).due := by omega
  unfold dnLate dnFar dnRing
  refine ⟨?_, ?_, fun j => ?_⟩
  · rw [filter_snoc _ h0 h1, if_pos (by simpa using h)]
  · rw [filter_snoc _ h0 h1, if_neg (by simp [hn])]; simp
  · rw [filter_snoc _ h0 h1, if_neg (by simp [hn])]; simp
theorem dnLate_out (h0 : 0 ≤ i) (h1 : i < l.length) (h : ¬ (gt l i).due ≤ to_) : dnLate to_ (l.take (i + 1).toNat) = dnLate to_ (l.take i.toNat) ∧ dnFar to_ (l.take (i + 1).toNat) = putFv to_ (dnFar to_ (l.take i.toNat)) (gt l i) ∧ ∀ j, dnRing to_ (l.take (i + 1).toNat) j = dnRing to_ (l.take i.toNat) j ++ (if (placeV to_ (gt l i).due).1 = j then [toR (gt l i) (placeV to_ (gt l i).due).2] else []) := by
  have hn : to_ < (gt l i).due := by omega
  unfold dnLate dnFar dnRing putFv
  refine ⟨?_, ?_, fun j => ?_⟩
  · rw [filter_snoc _ h0 h1, if_neg (by simpa using h)]; simp
  · rw [filter_snoc _ h0 h1]
    by_cases h4 : (placeV to_ (gt l i).due).1 = 4
    · rw [if_pos (by simp [hn, h4]), if_pos h4]
    · rw [if_neg (by simp [hn, h4]), if_neg h4]; simp
  · rw [filter_snoc _ h0 h1]
    by_cases h4 : (placeV to_ (gt l i).due).1 = j
    · rw [if_pos (by simp [hn, h4]), if_pos h4]; simp
    · rw [if_neg (by simp [hn, h4]), if_neg h4]; simp
theorem putRs_at (hl : Rs.length = 4) (h0 : 0 ≤ j) (h1 : j < 4) (hn : ∀ i : Int, 0 ≤ i → i < 4 → findR t.id (gt Rs i) = none) : gt (putRs to_ Rs t) j = gt Rs j ++ (if (placeV to_ t.due).1 = j then [toR t (placeV to_ t.due).2] else []) := by
  have hp := place_rng to_ t.due
  unfold putRs
  split
  · rename_i h4; rw [if_neg (by omega), List.append_nil]
  · rename_i h4
    rw [gt_setI h0 (by omega) hp.1]
    by_cases e : j = (placeV to_ t.due).1
    · rw [if_pos e, if_pos e.symm, putV_new hp.2.2.1 hp.2.2.2 (hn _ hp.1 (by omega)), ← e]
    · rw [if_neg e, if_neg (fun q => e q.symm), List.append_nil]
theorem putRs_len (hl : Rs.length = 4) : (putRs to_ Rs t).length = 4 := by unfold putRs; split; exact hl; simpa using hl
theorem putFv_app (A B : List Thing) : putFv to_ (A ++ B) t = A ++ putFv to_ B t := by unfold putFv; split <;> simp
theorem ids_take (h : Ids l) (h0 : 0 ≤ i) (h1 : i < l.length) : ∀ u, u ∈ l.take i.toNat → (gt l i).id ≠ u.id := by
  intro u hu e
  have hs : Ids (l.take (i + 1).toNat) := h.sub (List.take_sublist _ _)
  rw [take_gt h0 h1] at hs
  have hs : ((l.take i.toNat ++ [gt l i]).map (·.id)).Nodup := hs
  rw [List.map_append, List.nodup_append] at hs
  exact hs.2.2 u.id (List.mem_map.mpr ⟨u, hu, rfl⟩) (gt l i).id (by simp) e.symm
theorem dn_fresh {W : List RThing} (h : Ids l) (h0 : 0 ≤ i) (h1 : i < l.length) (hn : findR (gt l i).id W = none) : findR (gt l i).id (W ++ dnRing to_ (l.take i.toNat) j) = none := by
  refine findR_none.mpr fun r hr => ?_
  rcases List.mem_append.mp hr with hr | hr
  · exact findR_none.mp hn r hr
  · unfold dnRing at hr
    obtain ⟨u, hu, rfl⟩ := List.mem_map.mp hr
    exact ids_take h h0 h1 u (List.filter_sublist.subset hu)
theorem dn_freshF (h : Ids l) (h0 : 0 ≤ i) (h1 : i < l.length) (hn : findT (gt l i).id Fv = none) : findT (gt l i).id (Fv ++ dnFar to_ (l.take i.toNat)) = none := by
  refine findT_none.mpr fun r hr => ?_
  rcases List.mem_append.mp hr with hr | hr
  · exact findT_none.mp hn r hr
  · exact ids_take h h0 h1 r (List.filter_sublist.subset hr)
theorem dnRing_le : (dnRing to_ l j).length ≤ l.length := by unfold dnRing; rw [List.length_map]; exact List.length_filter_le _ _
theorem dnLate_le : (dnLate to_ l).length ≤ l.length := List.length_filter_le _ _
end
/-! ### words -/
theorem and1_u64 (n : Nat) (hn : n < 2 ^ 64) : IntKind.u64.wrap (BitVec.ofInt 64 (n : Int) &&& BitVec.ofInt 64 1).toNat = ((n &&& 1 : Nat) : Int) := by
  have : (BitVec.ofInt 64 (n : Int) &&& BitVec.ofInt 64 1).toNat = n &&& 1 := by
    rw [BitVec.toNat_and, BitVec.ofInt_natCast, BitVec.toNat_ofNat, Nat.mod_eq_of_lt hn]; rfl
  rw [this]
  have : n &&& 1 ≤ n := Nat.and_le_left
  exact wu64 (by omega)
theorem shr1_u64 (n : Nat) {k : Int} (h0 : 0 ≤ k) : Int.fdiv ((n >>> k.toNat : Nat) : Int) (2 ^ min (1 : Int).toNat IntKind.u64.bits) = ((n >>> (k + 1).toNat : Nat) : Int) := by
  have e : (k + 1).toNat = k.toNat + 1 := by omega
  rw [fdiv_pow, e, Nat.shiftRight_succ]
  show ((n >>> k.toNat : Nat) : Int) / 2 ^ 1 = _
  norm_cast
theorem shr_lt {n k : Nat} (h : n < 2 ^ 64) : n >>> k < 2 ^ 64 := Nat.lt_of_le_of_lt (Nat.shiftRight_le _ _) h
theorem rot1 {r : Res} {rs : List Res} {w w0 : World} {F : Nat → Prop} (H : SH w0 F (r :: rs) w) : SH w0 F (rs ++ [r]) w := H.perm (List.perm_append_singleton r rs).symm
end Go.Proofs.Ytblipnjjgbggiaa
