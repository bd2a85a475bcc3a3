/- A ring of slots as a list of things, in the order in which they were put: the plain mathematics. Conditions: none. -/
import Derived.Test.YtblipnjjgbggiaaMaps
import Derived.Test.YtblipnjjgbggiaaSrd
namespace Go.Proofs.Ytblipnjjgbggiaa
open Go Go.RowKit
set_option linter.unusedVariables false
set_option linter.unusedSectionVars false
set_option linter.unusedSimpArgs false
def plainR (r : RThing) : Thing := ⟨r.id, r.gen, r.due⟩
def toR (t : Thing) (s : Int) : RThing := ⟨t.id, t.gen, t.due, s⟩
def slotL (W : List RThing) (k : Int) : List Thing := (W.filter fun r => decide (r.slot = k)).map plainR
def usedN (W : List RThing) : Nat := W.foldl (fun n r => n ||| 2 ^ r.slot.toNat) 0
def findR (id : Int) (W : List RThing) : Option RThing := W.find? fun r => decide (id = r.id)
def findT (id : Int) (L : List Thing) : Option Thing := L.find? fun r => decide (id = r.id)
def dropR (id : Int) (W : List RThing) : List RThing := W.eraseP fun r => decide (id = r.id)
def dropT (id : Int) (L : List Thing) : List Thing := L.eraseP fun r => decide (id = r.id)
def clrN (u s : Nat) : Nat := u &&& (2 ^ 64 - (2 ^ s + 1))
/-- No number twice, and the slots are slots. -/
structure Wf (W : List RThing) : Prop where
  nodup : (W.map (·.id)).Nodup
  slots : ∀ r, r ∈ W → 0 ≤ r.slot ∧ r.slot ≤ 63
section
variable {W : List RThing} {k s id : Int} {t : Thing} {r : RThing}
theorem foldl_or (W : List RThing) : ∀ (n i : Nat), (W.foldl (fun n r => n ||| 2 ^ r.slot.toNat) n).testBit i = (n.testBit i || W.any fun r => decide (r.slot.toNat = i)) := by
  induction W with
  | nil => intro n i; simp
  | cons a W ih =>
    intro n i
    rw [List.foldl_cons, ih, Nat.testBit_or, Nat.testBit_two_pow, List.any_cons, Bool.or_assoc]
theorem usedN_bit (i : Nat) : (usedN W).testBit i = W.any fun r => decide (r.slot.toNat = i) := by
  unfold usedN; rw [foldl_or]; simp
theorem any_slot (hw : Wf W) (h0 : 0 ≤ k) : (W.any fun r => decide (r.slot.toNat = k.toNat)) = decide (slotL W k ≠ []) := by
  have e : slotL W k ≠ [] ↔ ∃ r, r ∈ W ∧ r.slot = k := by
    unfold slotL
    constructor
    · intro h
      obtain ⟨x, hx⟩ := List.exists_mem_of_ne_nil _ h
      obtain ⟨y, hy, _⟩ := List.mem_map.mp hx
      have := List.mem_filter.mp hy
      exact ⟨y, this.1, of_decide_eq_true this.2⟩
    · rintro ⟨r, hr, hk⟩ h
      have : plainR r ∈ (W.filter fun r => decide (r.slot = k)).map plainR := List.mem_map.mpr ⟨r, List.mem_filter.mpr ⟨hr, decide_eq_true hk⟩, rfl⟩
      rw [h] at this; cases this
  rw [Bool.eq_iff_iff]
  simp only [List.any_eq_true, decide_eq_true_eq]
  rw [e]
  constructor
  · rintro ⟨r, hr, hk⟩; exact ⟨r, hr, by have := hw.slots r hr; omega⟩
  · rintro ⟨r, hr, hk⟩; exact ⟨r, hr, by omega⟩
theorem usedN_slot (hw : Wf W) (h0 : 0 ≤ k) : (usedN W).testBit k.toNat = decide (slotL W k ≠ []) := by rw [usedN_bit, any_slot hw h0]
theorem usedN_lt (hw : Wf W) : usedN W < 2 ^ 64 := by
  refine Nat.lt_pow_two_of_testBit _ fun i hi => ?_
  rw [usedN_bit, List.any_eq_false]
  intro r hr
  have := hw.slots r hr
  simp; omega
theorem usedN_zero (hw : Wf W) : usedN W = 0 ↔ W = [] := by
  constructor
  · intro h
    cases W with
    | nil => rfl
    | cons a W =>
      have h1 := usedN_bit (W := a :: W) a.slot.toNat
      rw [h] at h1; simp at h1
  · rintro rfl; rfl
theorem usedN_eq {W' : List RThing} {u : Nat} (hw : Wf W') (hu : u < 2 ^ 64) (h : ∀ k : Int, 0 ≤ k → k ≤ 63 → u.testBit k.toNat = decide (slotL W' k ≠ [])) : u = usedN W' := by
  refine Nat.eq_of_testBit_eq fun i => ?_
  by_cases hi : i < 64
  · have := h i (by omega) (by omega)
    have e := usedN_slot hw (k := (i : Int)) (by omega)
    simp only [Int.toNat_natCast] at this e
    rw [this, e]
  · rw [Nat.testBit_lt_two_pow (Nat.lt_of_lt_of_le hu (Nat.pow_le_pow_right (by decide) (by omega))), Nat.testBit_lt_two_pow (Nat.lt_of_lt_of_le (usedN_lt hw) (Nat.pow_le_pow_right (by decide) (by omega)))]
theorem clrN_bit (u s i : Nat) (hs : s < 64) (hi : i < 64) : (clrN u s).testBit i = (u.testBit i && decide (i ≠ s)) := by
  unfold clrN
  rw [Nat.testBit_and, Nat.testBit_two_pow_sub_succ (Nat.pow_lt_pow_right (by decide) hs), Nat.testBit_two_pow]
  by_cases h : i = s
  · subst h; simp
  · have h' : ¬ s = i := fun e => h e.symm
    simp [h, h', hi]
theorem clrN_lt {u s : Nat} (hu : u < 2 ^ 64) : clrN u s < 2 ^ 64 := Nat.lt_of_le_of_lt Nat.and_le_left hu
theorem or_lt {u s : Nat} (hu : u < 2 ^ 64) (hs : s < 64) : u ||| 2 ^ s < 2 ^ 64 := Nat.or_lt_two_pow hu (Nat.pow_lt_pow_right (by decide) hs)
theorem slotL_app (W V : List RThing) (k : Int) : slotL (W ++ V) k = slotL W k ++ slotL V k := by simp [slotL]
theorem slotL_one (t : Thing) (s k : Int) : slotL [toR t s] k = if s = k then [t] else [] := by
  unfold slotL
  by_cases h : s = k
  · rw [if_pos h, List.filter_cons_of_pos (by simp [toR, h])]; rfl
  · rw [if_neg h, List.filter_cons_of_neg (by simp [toR, h])]; rfl
theorem Wf.put (hw : Wf W) (hn : findR t.id W = none) (h0 : 0 ≤ s) (h1 : s ≤ 63) : Wf (W ++ [toR t s]) := by
  refine ⟨?_, fun r hr => ?_⟩
  · rw [List.map_append, List.nodup_append]
    refine ⟨hw.nodup, by simp, ?_⟩
    intro a ha b hb e
    simp [toR] at hb
    subst hb; subst e
    obtain ⟨r, hr, he⟩ := List.mem_map.mp ha
    have := List.find?_eq_none.mp hn r hr
    simp at this
    exact this he.symm
  · rcases List.mem_append.mp hr with h | h
    · exact hw.slots r h
    · simp at h; subst h; exact ⟨h0, h1⟩
theorem findR_put (hn : findR t.id W = none) (id : Int) : findR id (W ++ [toR t s]) = if id = t.id then some (toR t s) else findR id W := by
  unfold findR at hn ⊢
  rw [List.find?_append]
  by_cases h : id = t.id
  · subst h; rw [hn, if_pos rfl]; simp [toR]
  · rw [if_neg h]
    have : List.find? (fun r => decide (id = r.id)) [toR t s] = none := by simp [toR, h]
    rw [this]; simp
theorem usedN_put (W : List RThing) (t : Thing) (s : Int) : usedN (W ++ [toR t s]) = usedN W ||| 2 ^ s.toNat := by simp [usedN, toR]
theorem findR_some (h : findR id W = some r) : r ∈ W ∧ r.id = id := ⟨List.mem_of_find?_eq_some h, by have := List.find?_some h; simp at this; exact this.symm⟩
theorem findR_none : findR id W = none ↔ ∀ r, r ∈ W → id ≠ r.id := by simp [findR]
/-- The one with the number, in its slot. -/
theorem find_in_slot (h : findR id W = some r) : findT id (slotL W r.slot) = some (plainR r) := by
  have key : ∀ (W : List RThing), findR id W = some r → findT id ((W.filter fun x => decide (x.slot = r.slot)).map plainR) = some (plainR r) := by
    intro W
    induction W with
    | nil => intro h; cases h
    | cons a W ih =>
      intro h
      unfold findR at h ih
      by_cases ha : id = a.id
      · rw [List.find?_cons_of_pos (by simpa using ha)] at h
        injection h with h
        subst h
        rw [List.filter_cons_of_pos (by simp), List.map_cons]
        unfold findT
        rw [List.find?_cons_of_pos (by exact decide_eq_true ha)]
      · rw [List.find?_cons_of_neg (by simpa using ha)] at h
        have ih := ih h
        by_cases hs : a.slot = r.slot
        · rw [List.filter_cons_of_pos (by simpa using hs), List.map_cons]
          unfold findT at ih ⊢
          rw [List.find?_cons_of_neg (by exact fun h => ha (of_decide_eq_true h))]; exact ih
        · rw [List.filter_cons_of_neg (by simpa using hs)]; exact ih
  exact key W h
theorem slotL_drop (h : findR id W = some r) (k : Int) : slotL (dropR id W) k = if k = r.slot then dropT id (slotL W k) else slotL W k := by
  induction W with
  | nil => cases h
  | cons a W ih =>
    unfold findR at h
    unfold dropR at ih ⊢
    by_cases ha : id = a.id
    · rw [List.find?_cons_of_pos (by simpa using ha)] at h
      injection h with h
      subst h
      rw [List.eraseP_cons_of_pos (by simpa using ha)]
      unfold slotL dropT
      by_cases hk : k = a.slot
      · rw [if_pos hk, List.filter_cons_of_pos (by simp [hk]), List.map_cons, List.eraseP_cons_of_pos (by exact decide_eq_true ha)]
      · rw [if_neg hk, List.filter_cons_of_neg (by simp; exact fun e => hk e.symm)]
    · rw [List.find?_cons_of_neg (by simpa using ha)] at h
      have ih := ih h
      rw [List.eraseP_cons_of_neg (by simpa using ha)]
      unfold slotL dropT at ih ⊢
      by_cases hs : a.slot = k
      · rw [List.filter_cons_of_pos (by simpa using hs), List.filter_cons_of_pos (by simpa using hs), List.map_cons, List.map_cons, ih]
        split
        · rw [List.eraseP_cons_of_neg (by exact fun h => ha (of_decide_eq_true h))]
        · rfl
      · rw [List.filter_cons_of_neg (by simpa using hs), List.filter_cons_of_neg (by simpa using hs)]; exact ih
theorem Wf.drop (hw : Wf W) : Wf (dropR id W) :=
  ⟨List.Nodup.sublist (List.Sublist.map _ List.eraseP_sublist) hw.nodup, fun r hr => hw.slots r (List.eraseP_sublist.subset hr)⟩
theorem findR_drop (hw : Wf W) (x : Int) : findR x (dropR id W) = if x = id then none else findR x W := by
  have hn := hw.nodup
  clear hw
  induction W with
  | nil => simp [findR, dropR]
  | cons a W ih =>
    rw [List.map_cons, List.nodup_cons] at hn
    have ih := ih hn.2
    unfold findR dropR at ih ⊢
    by_cases ha : id = a.id
    · rw [List.eraseP_cons_of_pos (by simpa using ha)]
      by_cases hx : x = id
      · rw [if_pos hx, List.find?_eq_none]
        intro r hr e
        simp at e
        exact hn.1 (List.mem_map.mpr ⟨r, hr, by rw [← e, hx, ha]⟩)
      · rw [if_neg hx, List.find?_cons_of_neg (by simp; omega)]
    · rw [List.eraseP_cons_of_neg (by simpa using ha)]
      by_cases hx : x = a.id
      · rw [List.find?_cons_of_pos (by simpa using hx), List.find?_cons_of_pos (by simpa using hx), if_neg (by omega)]
      · rw [List.find?_cons_of_neg (by simpa using hx), List.find?_cons_of_neg (by simpa using hx)]; exact ih
theorem usedN_drop (hw : Wf W) (h : findR id W = some r) : usedN (dropR id W) = if dropT id (slotL W r.slot) = [] then clrN (usedN W) r.slot.toNat else usedN W := by
  have hs := hw.slots r (findR_some h).1
  refine (usedN_eq hw.drop ?_ fun k h0 h1 => ?_).symm
  · split
    · exact clrN_lt (usedN_lt hw)
    · exact usedN_lt hw
  · rw [slotL_drop h]
    have e := usedN_slot hw (k := k) h0
    by_cases hk : k = r.slot
    · subst hk
      rw [if_pos rfl]
      split
      · rename_i h2
        rw [clrN_bit _ _ _ (by omega) (by omega), h2]; simp
      · rename_i h2
        rw [e]
        have h3 : slotL W r.slot ≠ [] := by intro h4; rw [h4] at h2; exact h2 rfl
        simp [h2, h3]
    · rw [if_neg hk]
      split
      · rw [clrN_bit _ _ _ (by omega) (by omega), e, decide_eq_true (show k.toNat ≠ r.slot.toNat by omega)]; simp
      · exact e
/-- What is not in a slot. -/
def leftR (W : List RThing) (k : Int) : List RThing := W.filter fun r => decide (r.slot ≠ k)
theorem Wf.left (hw : Wf W) : Wf (leftR W k) :=
  ⟨List.Nodup.sublist (List.Sublist.map _ List.filter_sublist) hw.nodup, fun r hr => hw.slots r (List.filter_sublist.subset hr)⟩
theorem slotL_left (W : List RThing) (k j : Int) : slotL (leftR W k) j = if j = k then [] else slotL W j := by
  unfold slotL leftR
  rw [List.filter_filter]
  by_cases h : j = k
  · subst h
    rw [if_pos rfl, List.filter_eq_nil_iff.mpr (by intro a _; simp)]; rfl
  · rw [if_neg h]
    congr 1
    apply List.filter_congr
    intro a _
    by_cases ha : a.slot = j
    · rw [decide_eq_true ha, decide_eq_true (show a.slot ≠ k by omega)]; rfl
    · rw [decide_eq_false ha]; rfl
theorem usedN_left (hw : Wf W) (h0 : 0 ≤ k) (h1 : k ≤ 63) : usedN (leftR W k) = clrN (usedN W) k.toNat := by
  refine (usedN_eq hw.left (clrN_lt (usedN_lt hw)) fun j j0 j1 => ?_).symm
  rw [slotL_left, clrN_bit _ _ _ (by omega) (by omega), usedN_slot hw j0]
  by_cases h : j = k
  · subst h; simp
  · rw [if_neg h, decide_eq_true (show j.toNat ≠ k.toNat by omega)]; simp
theorem slotL_ids (W : List RThing) (k x : Int) : x ∈ (slotL W k).map (·.id) ↔ ∃ r, r ∈ W ∧ r.slot = k ∧ r.id = x := by
  unfold slotL
  rw [List.map_map, List.mem_map]
  constructor
  · rintro ⟨r, hr, e⟩
    have := List.mem_filter.mp hr
    exact ⟨r, this.1, of_decide_eq_true this.2, e⟩
  · rintro ⟨r, hr, hk, e⟩
    exact ⟨r, List.mem_filter.mpr ⟨hr, decide_eq_true hk⟩, e⟩
theorem uniq (hw : Wf W) {a b : RThing} (ha : a ∈ W) (hb : b ∈ W) (h : a.id = b.id) : a = b := by
  have hn := hw.nodup
  clear hw
  induction W with
  | nil => cases ha
  | cons c W ih =>
    rw [List.map_cons, List.nodup_cons] at hn
    rcases List.mem_cons.mp ha with ha | ha
    · rcases List.mem_cons.mp hb with hb | hb
      · rw [ha, hb]
      · exact absurd (List.mem_map.mpr ⟨b, hb, by rw [← h, ha]⟩) hn.1
    · rcases List.mem_cons.mp hb with hb | hb
      · exact absurd (List.mem_map.mpr ⟨a, ha, by rw [h, hb]⟩) hn.1
      · exact ih ha hb hn.2
theorem findR_mem (hw : Wf W) (hr : r ∈ W) : findR r.id W = some r := by
  cases h : findR r.id W with
  | none => exact absurd rfl (findR_none.mp h r hr)
  | some a =>
    have := findR_some h
    rw [uniq hw this.1 hr this.2]
theorem findR_left (hw : Wf W) (x : Int) : findR x (leftR W k) = if x ∈ (slotL W k).map (·.id) then none else findR x W := by
  split
  · rename_i h
    obtain ⟨r, hr, hk, e⟩ := (slotL_ids W k x).mp h
    rw [findR_none]
    intro a ha hx
    have ha' := List.mem_filter.mp ha
    have := uniq hw ha'.1 hr (by omega)
    subst this
    simp at ha'
    exact ha'.2 hk
  · rename_i h
    cases hf : findR x W with
    | none => exact findR_none.mpr fun r hr => findR_none.mp hf r (List.filter_sublist.subset hr)
    | some a =>
      have ha := findR_some hf
      have hk : a.slot ≠ k := fun hk => h ((slotL_ids W k x).mpr ⟨a, ha.1, hk, ha.2⟩)
      have := findR_mem (hw.left (k := k)) (r := a) (List.mem_filter.mpr ⟨ha.1, by simp [hk]⟩)
      rw [← ha.2]; exact this
end
/-! ### maps of numbers -/
section
variable {α : Type} {E : List (Int × α × Nat)} {k x : Int} {v : α} {ck : Nat}
theorem mfind_app (E : List (Int × α × Nat)) (k : Int) (v : α) (ck : Nat) (hn : mfind k E = none) (x : Int) : mfind x (E ++ [(k, v, ck)]) = if x = k then some v else mfind x E := by
  unfold mfind at hn ⊢
  rw [List.find?_append]
  by_cases h : x = k
  · subst h
    have hn' := Option.map_eq_none_iff.mp hn
    rw [hn', if_pos rfl]; simp
  · rw [if_neg h]
    have : List.find? (fun e : Int × α × Nat => decide (x = e.1)) [(k, v, ck)] = none := by simp [h]
    rw [this]; simp
theorem mfind_none : mfind x E = none ↔ x ∉ E.map (·.1) := by
  unfold mfind
  rw [Option.map_eq_none_iff, List.find?_eq_none, List.mem_map]
  constructor
  · rintro h ⟨e, he, rfl⟩; exact h e he (by simp)
  · rintro h e he hx; simp at hx; exact h ⟨e, he, hx.symm⟩
theorem mdel_sub : (mdel k E).Sublist E := by
  induction E with
  | nil => exact List.Sublist.refl _
  | cons e E ih =>
    unfold mdel
    split
    · exact List.sublist_cons_self e E
    · exact ih.cons_cons e
theorem mfind_del (hn : (E.map (·.1)).Nodup) (x : Int) : mfind x (mdel k E) = if x = k then none else mfind x E := by
  induction E with
  | nil => simp [mdel, mfind]
  | cons e E ih =>
    rw [List.map_cons, List.nodup_cons] at hn
    have ih := ih hn.2
    unfold mdel
    by_cases hk : k = e.1
    · rw [if_pos hk]
      by_cases hx : x = k
      · rw [if_pos hx, mfind_none, hx, hk]; exact hn.1
      · rw [if_neg hx]
        unfold mfind
        rw [List.find?_cons_of_neg (by simp; omega)]
    · rw [if_neg hk]
      unfold mfind at ih ⊢
      by_cases hx : x = e.1
      · rw [List.find?_cons_of_pos (by simpa using hx), List.find?_cons_of_pos (by simpa using hx), if_neg (by omega)]
      · rw [List.find?_cons_of_neg (by simpa using hx), List.find?_cons_of_neg (by simpa using hx)]; exact ih
theorem keys_del (hn : (E.map (·.1)).Nodup) : ((mdel k E).map (·.1)).Nodup := List.Nodup.sublist (List.Sublist.map _ mdel_sub) hn
theorem keys_app (hn : (E.map (·.1)).Nodup) (hf : mfind k E = none) : ((E ++ [(k, v, ck)]).map (·.1)).Nodup := by
  rw [List.map_append, List.nodup_append]
  refine ⟨hn, by simp, ?_⟩
  intro a ha b hb e
  simp at hb
  subst hb; subst e
  exact mfind_none.mp hf ha
/-- Many deleted, one by one. -/
def mdels (l : List Int) (E : List (Int × α × Nat)) : List (Int × α × Nat) := l.foldl (fun E x => mdel x E) E
theorem mdels_keys (l : List Int) : ∀ (E : List (Int × α × Nat)), (E.map (·.1)).Nodup → ((mdels l E).map (·.1)).Nodup := by
  induction l with
  | nil => intro E h; exact h
  | cons a l ih => intro E h; exact ih _ (keys_del h)
theorem mdels_find (l : List Int) : ∀ (E : List (Int × α × Nat)), (E.map (·.1)).Nodup → ∀ x, mfind x (mdels l E) = if x ∈ l then none else mfind x E := by
  induction l with
  | nil => intro E h x; simp [mdels]
  | cons a l ih =>
    intro E h x
    show mfind x (mdels l (mdel a E)) = _
    rw [ih _ (keys_del h), mfind_del h]
    by_cases h1 : x ∈ l
    · rw [if_pos h1, if_pos (List.mem_cons_of_mem a h1)]
    · by_cases h2 : x = a
      · rw [if_neg h1, if_pos h2, if_pos (by rw [h2]; exact List.mem_cons_self)]
      · rw [if_neg h1, if_neg h2, if_neg (by simp [h1, h2])]
theorem many_eq {W : List RThing} (hw : Wf W) (hk : (E.map (·.1)).Nodup) (hf : ∀ id, (mfind id E).isSome = (findR id W).isSome) : E.length = W.length := by
  have hp : (E.map (·.1)).Perm (W.map (·.id)) := by
    refine (List.perm_ext_iff_of_nodup hk hw.nodup).mpr fun x => ?_
    have h1 := hf x
    constructor
    · intro hx
      cases h2 : findR x W with
      | none =>
        rw [h2] at h1
        have : mfind x E = none := by cases h3 : mfind x E with
          | none => rfl
          | some _ => rw [h3] at h1; cases h1
        exact absurd hx (mfind_none.mp this)
      | some r => exact List.mem_map.mpr ⟨r, (findR_some h2).1, (findR_some h2).2⟩
    · intro hx
      obtain ⟨r, hr, rfl⟩ := List.mem_map.mp hx
      rw [findR_mem hw hr] at h1
      apply Classical.byContradiction
      intro hn
      rw [mfind_none.mpr hn] at h1; cases h1
  simpa using hp.length_eq
end
end Go.Proofs.Ytblipnjjgbggiaa
