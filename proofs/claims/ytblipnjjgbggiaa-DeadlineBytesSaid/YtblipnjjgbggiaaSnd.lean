/- A state that may be: plain part. Conditions: none. -/
import Derived.Test.YtblipnjjgbggiaaMapset
import Derived.Test.YtblipnjjgbggiaaDlB
namespace Go.Proofs.Ytblipnjjgbggiaa
open Go Go.RowKit
set_option linter.unusedVariables false
set_option linter.unusedSimpArgs false
def okT (last : Int) (t : Thing) : Prop := 1 ≤ t.gen ∧ t.gen ≤ last ∧ 0 ≤ t.due ∧ t.due ≤ 1125899906842624
structure SndT (last : Int) (X : List Thing) : Prop where
  ok : ∀ t, t ∈ X → okT last t
  up : X.Pairwise ltT
  ids : Ids X
  gens : (X.map (·.gen)).Nodup
def sndP (now last : Int) (X : List Thing) : Prop := (0 ≤ now ∧ now ≤ 1125899906842624) ∧ last ≤ 1152921504606846976 ∧ X.length ≤ 256 ∧ SndT last X
noncomputable def sndB (now last : Int) (X : List Thing) : Bool := @decide (sndP now last X) (Classical.propDecidable _)
theorem sndB_true {now last : Int} {X : List Thing} : sndB now last X = true ↔ sndP now last X := by
  unfold sndB; exact @decide_eq_true_iff _ (Classical.propDecidable _)
theorem sndB_false {now last : Int} {X : List Thing} (h : ¬ sndP now last X) : sndB now last X = false := by
  cases q : sndB now last X with
  | false => rfl
  | true => exact absurd (sndB_true.mp q) h
theorem SndT.nil {last : Int} : SndT last [] := ⟨fun t h => (by cases h), List.Pairwise.nil, List.nodup_nil, List.nodup_nil⟩
theorem SndT.sub {last : Int} {X Y : List Thing} (h : SndT last X) (p : Y.Sublist X) : SndT last Y :=
  ⟨fun t ht => h.ok t (p.subset ht), h.up.sublist p, h.ids.sub p, List.Nodup.sublist (p.map _) h.gens⟩
theorem snd_snoc {last : Int} {X : List Thing} {t : Thing} : SndT last (X ++ [t]) ↔ SndT last X ∧ okT last t ∧ (∀ a, a ∈ X → ltT a t) ∧ t.id ∉ X.map (·.id) ∧ t.gen ∉ X.map (·.gen) := by
  constructor
  · intro h
    have h1 := h.up
    have h2 : ((X ++ [t]).map (·.id)).Nodup := h.ids
    have h3 := h.gens
    rw [List.pairwise_append] at h1
    rw [List.map_append, List.nodup_append] at h2 h3
    exact ⟨h.sub (List.sublist_append_left _ _), h.ok t (by simp), fun a ha => h1.2.2 a ha t (by simp), fun q => h2.2.2 _ q _ (by simp) rfl, fun q => h3.2.2 _ q _ (by simp) rfl⟩
  · rintro ⟨h, ho, hu, hi, hg⟩
    refine ⟨fun u hu' => ?_, ?_, ?_, ?_⟩
    · rcases List.mem_append.mp hu' with q | q
      · exact h.ok u q
      · rw [List.mem_singleton.mp q]; exact ho
    · rw [List.pairwise_append]
      exact ⟨h.up, List.pairwise_singleton _ _, fun a ha b hb => by rw [List.mem_singleton.mp hb]; exact hu a ha⟩
    · show ((X ++ [t]).map (·.id)).Nodup
      rw [List.map_append, List.nodup_append]
      exact ⟨h.ids, by simp, fun a ha b hb q => hi (by simp at hb; subst hb; subst q; exact ha)⟩
    · rw [List.map_append, List.nodup_append]
      exact ⟨h.gens, by simp, fun a ha b hb q => hg (by simp at hb; subst hb; subst q; exact ha)⟩
theorem up_last {X : List Thing} {i : Int} (h : (X.take i.toNat).Pairwise ltT) (h0 : 0 ≤ i) (h1 : i < X.length) : (∀ a, a ∈ X.take i.toNat → ltT a (gt X i)) ↔ (0 < i → ltT (gt X (i - 1)) (gt X i)) := by
  constructor
  · intro q hi
    refine q _ ?_
    have e := take_gt (L := X) (i := i - 1) (by omega) (by omega)
    rw [show i - 1 + 1 = i by omega] at e
    rw [e]; simp
  · intro q a ha
    by_cases hi : 0 < i
    · have e := take_gt (L := X) (i := i - 1) (by omega) (by omega)
      rw [show i - 1 + 1 = i by omega] at e
      rw [e] at ha h
      rcases List.mem_append.mp ha with z | z
      · exact ltT_trans ((List.pairwise_append.mp h).2.2 a z _ (by simp)) (q hi)
      · rw [List.mem_singleton.mp z]; exact q hi
    · have : i = 0 := by omega
      subst this; simp at ha
theorem snd_iff {last : Int} {X : List Thing} {i : Int} (h0 : 0 ≤ i) (h1 : i < X.length) : SndT last (X.take (i + 1).toNat) ↔ SndT last (X.take i.toNat) ∧ okT last (gt X i) ∧ (0 < i → ltT (gt X (i - 1)) (gt X i)) ∧ (gt X i).id ∉ (X.take i.toNat).map (·.id) ∧ (gt X i).gen ∉ (X.take i.toNat).map (·.gen) := by
  rw [take_gt h0 h1, snd_snoc]
  constructor
  · rintro ⟨a, b, c, d⟩; exact ⟨a, b, (up_last a.up h0 h1).mp c, d⟩
  · rintro ⟨a, b, c, d⟩; exact ⟨a, b, (up_last a.up h0 h1).mpr c, d⟩
theorem snd_not {now last : Int} {X : List Thing} {i : Int} (h0 : 0 ≤ i) (h1 : i < X.length) (h : okT last (gt X i) → (0 < i → ltT (gt X (i - 1)) (gt X i)) → (gt X i).id ∉ (X.take i.toNat).map (·.id) → (gt X i).gen ∉ (X.take i.toNat).map (·.gen) → False) : false = sndB now last X :=
  (sndB_false fun q => by
    obtain ⟨_, b, c, d, e⟩ := (snd_iff h0 h1).mp (q.2.2.2.sub (List.take_sublist _ _))
    exact h b c d e).symm
theorem keys_snoc {E : List (Int × Bool × Nat)} {X : List Thing} {f : Thing → Int} {i : Int} {ck : Nat} (h0 : 0 ≤ i) (h1 : i < X.length) (hk : E.map (·.1) = (X.take i.toNat).map f) (hn : (mfind (f (gt X i)) E).isSome = false) : (mset (f (gt X i)) true ck E).map (·.1) = (X.take (i + 1).toNat).map f := by
  rw [mset_keys, hn, take_gt h0 h1, List.map_append, hk]; rfl
theorem snd_arm {last : Int} {X : List Thing} {i : Int} (h : SndT last X) (hl : X.length ≤ 256) (h0 : 0 ≤ i) (h1 : i < X.length) : armV (X.take i.toNat) (gt X i) = (X.take (i + 1).toNat, 0) := by
  obtain ⟨_, b, _, d, _⟩ := (snd_iff (last := last) h0 h1).mp (h.sub (List.take_sublist _ _))
  have ht : findT (gt X i).id (X.take i.toNat) = none := findT_none.mpr fun t ht q => d (List.mem_map.mpr ⟨t, ht, q.symm⟩)
  unfold armV
  rw [if_neg (Classical.not_not.mpr ⟨b.2.2.1, b.2.2.2⟩), ht, if_neg (by decide), if_neg (by rw [List.length_take]; omega), take_gt h0 h1]
theorem snd_up {last : Int} {X : List Thing} (h : SndT last X) : UpT X := h.up.imp fun {a b} q => ltT_asymm q
theorem snd_sort {last : Int} {X : List Thing} (h : SndT last X) : sortT X = X := sort_up h.ids (snd_up h)
end Go.Proofs.Ytblipnjjgbggiaa
