/- A wheel: what waits, told by its rings and what is beyond them. The plain mathematics. Conditions: none. -/
import Derived.Test.YtblipnjjgbggiaaWheelP
namespace Go.Proofs.Ytblipnjjgbggiaa
open Go Go.RowKit
set_option linter.unusedVariables false
set_option linter.unusedSectionVars false
set_option linter.unusedSimpArgs false
/-! ### things with numbers of their own -/
abbrev Ids (X : List Thing) : Prop := (X.map (·.id)).Nodup
section
variable {X Y : List Thing} {t u : Thing} {id : Int}
theorem Ids.nodup (h : Ids X) : X.Nodup := List.Pairwise.of_map (·.id) (fun a b hab e => hab (by rw [e])) h
theorem Ids.perm (h : Ids X) (p : X.Perm Y) : Ids Y := (p.map (·.id)).nodup_iff.mp h
theorem Ids.sub (h : Ids X) (p : Y.Sublist X) : Ids Y := List.Nodup.sublist (p.map _) h
theorem Ids.uniq (h : Ids X) (ht : t ∈ X) (hu : u ∈ X) (e : t.id = u.id) : t = u := by
  induction X with
  | nil => cases ht
  | cons a X ih =>
    have h' : (a.id :: X.map (·.id)).Nodup := h
    rw [List.nodup_cons] at h'
    rcases List.mem_cons.mp ht with h1 | h1
    · rcases List.mem_cons.mp hu with h2 | h2
      · rw [h1, h2]
      · exact absurd (List.mem_map.mpr ⟨u, h2, by rw [← e, h1]⟩) h'.1
    · rcases List.mem_cons.mp hu with h2 | h2
      · exact absurd (List.mem_map.mpr ⟨t, h1, by rw [e, h2]⟩) h'.1
      · exact ih h'.2 h1 h2
theorem findT_some (h : findT id X = some t) : t ∈ X ∧ t.id = id := ⟨List.mem_of_find?_eq_some h, by have := List.find?_some h; simp at this; exact this.symm⟩
theorem findT_none : findT id X = none ↔ ∀ t, t ∈ X → id ≠ t.id := by simp [findT]
theorem findT_mem (h : Ids X) (ht : t ∈ X) : findT t.id X = some t := by
  cases hf : findT t.id X with
  | none => exact absurd rfl (findT_none.mp hf t ht)
  | some u => have := findT_some hf; rw [h.uniq this.1 ht this.2]
theorem findT_perm (h : Ids X) (p : X.Perm Y) (id : Int) : findT id X = findT id Y := by
  cases hf : findT id X with
  | none => exact (findT_none.mpr fun t ht => findT_none.mp hf t (p.mem_iff.mpr ht)).symm
  | some t => have := findT_some hf; rw [← this.2]; exact (findT_mem (h.perm p) (p.mem_iff.mp this.1)).symm
theorem mem_dropT (h : Ids X) : t ∈ dropT id X ↔ t ∈ X ∧ t.id ≠ id := by
  unfold dropT
  induction X with
  | nil => simp
  | cons a X ih =>
    have h' : (a.id :: X.map (·.id)).Nodup := h
    rw [List.nodup_cons] at h'
    have ih := ih h'.2
    by_cases ha : id = a.id
    · rw [List.eraseP_cons_of_pos (by simpa using ha)]
      constructor
      · intro ht; exact ⟨List.mem_cons_of_mem _ ht, fun e => h'.1 (List.mem_map.mpr ⟨t, ht, by rw [e, ha]⟩)⟩
      · rintro ⟨ht, hne⟩
        rcases List.mem_cons.mp ht with e | e
        · exact absurd (by rw [e, ha]) hne
        · exact e
    · rw [List.eraseP_cons_of_neg (by simpa using ha), List.mem_cons, ih, List.mem_cons]
      constructor
      · rintro (e | ⟨e, e2⟩)
        · exact ⟨.inl e, by rw [e]; exact fun q => ha q.symm⟩
        · exact ⟨.inr e, e2⟩
      · rintro ⟨e | e, e2⟩
        · exact .inl e
        · exact .inr ⟨e, e2⟩
theorem dropT_sub : (dropT id X).Sublist X := List.eraseP_sublist
theorem dropT_none (h : findT id X = none) : dropT id X = X := by
  unfold dropT
  rw [List.eraseP_of_forall_not]
  intro r hr
  have := findT_none.mp h r hr
  simpa using this
theorem dropT_le : (dropT id X).length ≤ X.length := dropT_sub.length_le
theorem Ids.snoc (h : Ids X) (hn : findT t.id X = none) : Ids (X ++ [t]) := by
  show ((X ++ [t]).map (·.id)).Nodup
  rw [List.map_append, List.nodup_append]
  refine ⟨h, by simp, ?_⟩
  intro a ha b hb e
  simp at hb
  subst hb; subst e
  obtain ⟨r, hr, he⟩ := List.mem_map.mp ha
  exact findT_none.mp hn r hr he.symm
theorem mem_dropR {W : List RThing} (hw : Wf W) {r : RThing} : r ∈ dropR id W ↔ r ∈ W ∧ r.id ≠ id := by
  constructor
  · intro h
    refine ⟨List.eraseP_sublist.subset h, fun e => ?_⟩
    have := findR_drop (id := id) hw id
    rw [if_pos rfl] at this
    exact findR_none.mp this r h e.symm
  · rintro ⟨h, hne⟩
    have h1 := findR_drop (id := id) hw r.id
    rw [if_neg hne, findR_mem hw h] at h1
    exact (findR_some h1).1
/-! ### in order -/
def UpT (L : List Thing) : Prop := L.Pairwise fun a b => ¬ ltT b a
theorem up_sortT (L : List Thing) : UpT (sortT L) := by
  rw [sort_plain]
  exact List.Pairwise.map plainR (fun a b h => h) (up_sortR _)
theorem sortT_perm (L : List Thing) : (sortT L).Perm L := isort_perm L
theorem upT_unique (h : Ids X) (p : X.Perm Y) (h1 : UpT X) (h2 : UpT Y) : X = Y := by
  refine List.Perm.eq_of_pairwise (le := fun a b => ¬ ltT b a) (fun a b ha hb h3 h4 => ?_) h1 h2 p
  have hb' := p.mem_iff.mpr hb
  refine h.uniq ha hb' ?_
  unfold ltT at h3 h4
  omega
theorem sort_eq (h : Ids X) (p : X.Perm Y) : sortT X = sortT Y := by
  refine upT_unique (h.perm (sortT_perm X).symm) ((sortT_perm X).trans (p.trans (sortT_perm Y).symm)) (up_sortT X) (up_sortT Y)
theorem sort_up (h : Ids X) (h1 : UpT X) : sortT X = X := upT_unique (h.perm (sortT_perm X).symm) (sortT_perm X) (up_sortT X) h1
theorem perm_of (h : X.Nodup) (h' : Y.Nodup) (hm : ∀ t, t ∈ X ↔ t ∈ Y) : X.Perm Y := (List.perm_ext_iff_of_nodup h h').mpr hm
end
/-! ### the wheel -/
structure WRel (now : Int) (X : List Thing) (Rs : List (List RThing)) (Fv : List Thing) : Prop where
  now0 : 0 ≤ now ∧ now ≤ 1125899906842624
  ids : Ids X
  dues : ∀ t, t ∈ X → 0 ≤ t.due ∧ t.due ≤ 1125899906842624
  few : X.length ≤ 256
  len : Rs.length = 4
  wf : ∀ i : Int, 0 ≤ i → i < 4 → Wf (gt Rs i)
  ring : ∀ i : Int, 0 ≤ i → i < 4 → ∀ r, r ∈ gt Rs i ↔ plainR r ∈ X ∧ placeV now r.due = (i, r.slot)
  keys : Ids Fv
  far : ∀ t, t ∈ Fv ↔ t ∈ X ∧ (placeV now t.due).1 = 4
def cntX (now : Int) (X : List Thing) (i : Int) : Nat := (X.filter fun t => decide ((placeV now t.due).1 = i)).length
theorem cnt_sum (now : Int) (X : List Thing) : cntX now X 0 + cntX now X 1 + cntX now X 2 + cntX now X 3 + cntX now X 4 = X.length := by
  unfold cntX
  induction X with
  | nil => rfl
  | cons t X ih =>
    have hr := place_rng now t.due
    rcases (show (placeV now t.due).1 = 0 ∨ (placeV now t.due).1 = 1 ∨ (placeV now t.due).1 = 2 ∨ (placeV now t.due).1 = 3 ∨ (placeV now t.due).1 = 4 by omega) with h | h | h | h | h <;>
      simp [List.filter_cons, h] <;> omega
theorem cntX_perm {now i : Int} {X Y : List Thing} (p : X.Perm Y) : cntX now X i = cntX now Y i := (p.filter _).length_eq
section
variable {now i id : Int} {X Y Fv : List Thing} {Rs : List (List RThing)} {t : Thing} {r : RThing}
theorem WRel.perm (h : WRel now X Rs Fv) (p : X.Perm Y) : WRel now Y Rs Fv :=
  ⟨h.now0, h.ids.perm p, fun t ht => h.dues t (p.mem_iff.mpr ht), by rw [← p.length_eq]; exact h.few, h.len, h.wf, fun i h0 h1 r => (h.ring i h0 h1 r).trans (and_congr_left fun _ => p.mem_iff), h.keys, fun t => (h.far t).trans (and_congr_left fun _ => p.mem_iff)⟩
theorem ids_plain {W : List RThing} (hw : Wf W) : Ids (W.map plainR) := by
  show ((W.map plainR).map (·.id)).Nodup
  rw [List.map_map]; exact hw.nodup
theorem WRel.ringPerm (h : WRel now X Rs Fv) (h0 : 0 ≤ i) (h1 : i < 4) : ((gt Rs i).map plainR).Perm (X.filter fun t => decide ((placeV now t.due).1 = i)) := by
  refine perm_of (ids_plain (h.wf i h0 h1)).nodup (h.ids.sub List.filter_sublist).nodup fun t => ?_
  rw [List.mem_map, List.mem_filter]
  constructor
  · rintro ⟨r, hr, rfl⟩
    have := (h.ring i h0 h1 r).mp hr
    exact ⟨this.1, by show decide ((placeV now r.due).1 = i) = true; rw [this.2]; simp⟩
  · rintro ⟨ht, hp⟩
    refine ⟨toR t (placeV now t.due).2, (h.ring i h0 h1 _).mpr ⟨ht, ?_⟩, rfl⟩
    have : (placeV now t.due).1 = i := of_decide_eq_true hp
    show placeV now t.due = (i, (placeV now t.due).2)
    rw [← this]
theorem WRel.cnt (h : WRel now X Rs Fv) (h0 : 0 ≤ i) (h1 : i < 4) : (gt Rs i).length = cntX now X i := by
  have := (h.ringPerm h0 h1).length_eq
  simpa [cntX] using this
theorem WRel.farPerm (h : WRel now X Rs Fv) : Fv.Perm (X.filter fun t => decide ((placeV now t.due).1 = 4)) := by
  refine perm_of h.keys.nodup (h.ids.sub List.filter_sublist).nodup fun t => ?_
  rw [List.mem_filter, h.far]; simp
theorem WRel.cntFar (h : WRel now X Rs Fv) : Fv.length = cntX now X 4 := h.farPerm.length_eq
theorem WRel.small (h : WRel now X Rs Fv) (h0 : 0 ≤ i) (h1 : i < 4) : (gt Rs i).length ≤ 256 := by
  rw [h.cnt h0 h1]; exact Nat.le_trans (List.length_filter_le _ _) h.few
theorem WRel.smallFar (h : WRel now X Rs Fv) : Fv.length ≤ 256 := by rw [h.cntFar]; exact Nat.le_trans (List.length_filter_le _ _) h.few
theorem WRel.start (h : 0 ≤ now ∧ now ≤ 1125899906842624) : WRel now [] (List.replicate 4 []) [] := by
  refine ⟨h, List.nodup_nil, fun t ht => (by cases ht), by simp, by simp, fun i h0 h1 => ?_, fun i h0 h1 r => ?_, List.nodup_nil, fun t => by simp⟩
  · rw [gt_rep h0 (by omega)]; exact wf_nil
  · rw [gt_rep h0 (by omega)]; simp
/-- In a ring: it waits. -/
theorem WRel.getRing (h : WRel now X Rs Fv) (h0 : 0 ≤ i) (h1 : i < 4) (hf : findR id (gt Rs i) = some r) : findT id X = some (plainR r) := by
  have hr := findR_some hf
  have := (h.ring i h0 h1 r).mp hr.1
  have e : (plainR r).id = id := hr.2
  rw [← e]; exact findT_mem h.ids this.1
theorem WRel.getFar (h : WRel now X Rs Fv) (hn : ∀ i : Int, 0 ≤ i → i < 4 → findR id (gt Rs i) = none) : findT id Fv = findT id X := by
  cases hf : findT id Fv with
  | some t => have := findT_some hf; rw [← this.2]; exact (findT_mem h.ids ((h.far t).mp this.1).1).symm
  | none =>
    refine (findT_none.mpr fun t ht e => ?_).symm
    have hp := place_rng now t.due
    by_cases h4 : (placeV now t.due).1 = 4
    · exact findT_none.mp hf t ((h.far t).mpr ⟨ht, h4⟩) e
    · have hm := (h.ring (placeV now t.due).1 hp.1 (by omega) (toR t (placeV now t.due).2)).mpr ⟨ht, rfl⟩
      exact findR_none.mp (hn _ hp.1 (by omega)) _ hm e
theorem WRel.ringNone (h : WRel now X Rs Fv) (h0 : 0 ≤ i) (h1 : i < 4) (hf : findT id X = none) : findR id (gt Rs i) = none :=
  findR_none.mpr fun r hr e => findT_none.mp hf (plainR r) ((h.ring i h0 h1 r).mp hr).1 e
theorem WRel.farNone (h : WRel now X Rs Fv) (hf : findT id X = none) : findT id Fv = none :=
  findT_none.mpr fun t ht e => findT_none.mp hf t ((h.far t).mp ht).1 e
/-- What is put where it must be. -/
def putRs (now : Int) (Rs : List (List RThing)) (t : Thing) : List (List RThing) := if (placeV now t.due).1 = 4 then Rs else Rs.set (placeV now t.due).1.toNat (putV (gt Rs (placeV now t.due).1) (placeV now t.due).2 t).1
def putFv (now : Int) (Fv : List Thing) (t : Thing) : List Thing := if (placeV now t.due).1 = 4 then Fv ++ [t] else Fv
theorem putV_new {W : List RThing} {s : Int} (h0 : 0 ≤ s) (h1 : s ≤ 63) (hn : findR t.id W = none) : (putV W s t).1 = W ++ [toR t s] := by
  unfold putV; rw [if_neg (by omega), if_neg (by rw [hn]; decide)]
theorem WRel.arm (h : WRel now X Rs Fv) (hn : findT t.id X = none) (hl : X.length < 256) (hd : 0 ≤ t.due ∧ t.due ≤ 1125899906842624) : WRel now (X ++ [t]) (putRs now Rs t) (putFv now Fv t) := by
  have hp := place_rng now t.due
  refine ⟨h.now0, h.ids.snoc hn, fun u hu => ?_, by simp; omega, ?_, fun i h0 h1 => ?_, fun i h0 h1 r => ?_, ?_, fun u => ?_⟩
  · rcases List.mem_append.mp hu with hu | hu
    · exact h.dues u hu
    · simp at hu; subst hu; exact hd
  · unfold putRs; split
    · exact h.len
    · simpa using h.len
  · unfold putRs; split
    · exact h.wf i h0 h1
    · rename_i h4
      rw [gt_setI h0 (by rw [h.len]; omega) hp.1]
      split
      · rename_i e
        subst e
        rw [putV_new hp.2.2.1 hp.2.2.2 (h.ringNone h0 h1 hn)]
        exact (h.wf _ h0 h1).put (h.ringNone h0 h1 hn) hp.2.2.1 hp.2.2.2
      · exact h.wf i h0 h1
  · have key : r ∈ gt (putRs now Rs t) i ↔ r ∈ gt Rs i ∨ r = toR t (placeV now t.due).2 ∧ (placeV now t.due).1 = i := by
      unfold putRs; split
      · rename_i h4
        constructor
        · intro hr; exact .inl hr
        · rintro (hr | ⟨_, e⟩)
          · exact hr
          · omega
      · rename_i h4
        rw [gt_setI h0 (by rw [h.len]; omega) hp.1]
        split
        · rename_i e
          subst e
          rw [putV_new hp.2.2.1 hp.2.2.2 (h.ringNone h0 h1 hn)]; simp
        · rename_i e
          constructor
          · intro hr; exact .inl hr
          · rintro (hr | ⟨_, e2⟩)
            · exact hr
            · exact absurd e2.symm e
    rw [key, h.ring i h0 h1 r, List.mem_append, List.mem_singleton]
    constructor
    · rintro (⟨h2, h3⟩ | ⟨rfl, h3⟩)
      · exact ⟨.inl h2, h3⟩
      · exact ⟨.inr rfl, by show placeV now t.due = (i, (placeV now t.due).2); rw [← h3]⟩
    · rintro ⟨h2 | h2, h3⟩
      · exact .inl ⟨h2, h3⟩
      · refine .inr ⟨?_, ?_⟩
        · have e : placeV now t.due = (i, r.slot) := by rw [← h2]; exact h3
          rw [e]
          subst h2
          cases r; rfl
        · have e : placeV now t.due = (i, r.slot) := by rw [← h2]; exact h3
          rw [e]
  · unfold putFv; split
    · exact h.keys.snoc (h.farNone hn)
    · exact h.keys
  · have key : u ∈ putFv now Fv t ↔ u ∈ Fv ∨ u = t ∧ (placeV now t.due).1 = 4 := by
      unfold putFv; split
      · rename_i h4; simp [h4]
      · rename_i h4; simp [h4]
    rw [key, h.far, List.mem_append, List.mem_singleton]
    constructor
    · rintro (⟨h2, h3⟩ | ⟨rfl, h3⟩)
      · exact ⟨.inl h2, h3⟩
      · exact ⟨.inr rfl, h3⟩
    · rintro ⟨h2 | h2, h3⟩
      · exact .inl ⟨h2, h3⟩
      · exact .inr ⟨h2, by rw [← h2]; exact h3⟩
theorem gt_mapR {f : List RThing → List RThing} (h0 : 0 ≤ i) (h1 : i < Rs.length) : gt (Rs.map f) i = f (gt Rs i) := gt_map f h0 h1
theorem WRel.cancel (h : WRel now X Rs Fv) (id : Int) : WRel now (dropT id X) (Rs.map (dropR id)) (dropT id Fv) := by
  refine ⟨h.now0, h.ids.sub dropT_sub, fun t ht => h.dues t (dropT_sub.subset ht), Nat.le_trans dropT_le h.few, by simpa using h.len, fun i h0 h1 => ?_, fun i h0 h1 r => ?_, h.keys.sub dropT_sub, fun t => ?_⟩
  · rw [gt_mapR h0 (by rw [h.len]; omega)]; exact (h.wf i h0 h1).drop
  · rw [gt_mapR h0 (by rw [h.len]; omega), mem_dropR (h.wf i h0 h1), h.ring i h0 h1 r, mem_dropT h.ids]
    constructor
    · rintro ⟨⟨a, b⟩, c⟩; exact ⟨⟨a, c⟩, b⟩
    · rintro ⟨⟨a, c⟩, b⟩; exact ⟨⟨a, b⟩, c⟩
  · rw [mem_dropT h.keys, h.far, mem_dropT h.ids]
    constructor
    · rintro ⟨⟨a, b⟩, c⟩; exact ⟨⟨a, c⟩, b⟩
    · rintro ⟨⟨a, c⟩, b⟩; exact ⟨⟨a, b⟩, c⟩
/-- Those that are late already are beyond the rings. -/
theorem WRel.late (h : WRel now X Rs Fv) : WRel now (X.filter fun t => decide (now < t.due)) Rs (Fv.filter fun t => decide (now < t.due)) := by
  refine ⟨h.now0, h.ids.sub List.filter_sublist, fun t ht => h.dues t (List.filter_sublist.subset ht), Nat.le_trans (List.length_filter_le _ _) h.few, h.len, h.wf, fun i h0 h1 r => ?_, h.keys.sub List.filter_sublist, fun t => ?_⟩
  · rw [h.ring i h0 h1 r, List.mem_filter]
    constructor
    · rintro ⟨a, b⟩
      refine ⟨⟨a, decide_eq_true ?_⟩, b⟩
      apply Classical.byContradiction
      intro hn
      have := place_old (now := now) (due := r.due) (by show r.due ≤ now; exact Int.not_lt.mp hn)
      rw [this] at b
      have : (4 : Int) = i := congrArg Prod.fst b
      omega
    · rintro ⟨⟨a, _⟩, b⟩; exact ⟨a, b⟩
  · rw [List.mem_filter, List.mem_filter, h.far]
    constructor
    · rintro ⟨⟨a, b⟩, c⟩; exact ⟨⟨a, c⟩, b⟩
    · rintro ⟨⟨a, c⟩, b⟩; exact ⟨⟨a, b⟩, c⟩
end
end Go.Proofs.Ytblipnjjgbggiaa
