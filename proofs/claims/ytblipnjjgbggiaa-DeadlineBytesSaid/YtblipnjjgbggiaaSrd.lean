/- What a stable sort answers, as a list. Conditions: none. -/
import Derived.Test.YtblipnjjgbggiaaStb
namespace Go.Proofs.Ytblipnjjgbggiaa
open Go Go.RowKit
set_option linter.unusedVariables false
set_option linter.unusedSimpArgs false
def ins {α : Type} (lt : α → α → Bool) (x : α) : List α → List α
  | [] => [x]
  | y :: ys => if lt x y then x :: y :: ys else y :: ins lt x ys
def isort {α : Type} (lt : α → α → Bool) (L : List α) : List α := L.foldl (fun o x => ins lt x o) []
theorem ins_perm {α : Type} {lt : α → α → Bool} {x : α} : ∀ (L : List α), (ins lt x L).Perm (x :: L)
  | [] => List.Perm.refl _
  | y :: ys => by
    unfold ins
    split
    · exact List.Perm.refl _
    · exact ((ins_perm ys).cons y).trans (List.Perm.swap x y ys)
theorem foldl_ins_perm {α : Type} {lt : α → α → Bool} : ∀ (L o : List α), (L.foldl (fun o x => ins lt x o) o).Perm (o ++ L)
  | [], o => by simp
  | x :: L, o => by
    rw [List.foldl_cons]
    refine (foldl_ins_perm L _).trans ?_
    refine ((ins_perm o).append_right L).trans ?_
    simpa using (List.perm_middle (a := x) (l₁ := o) (l₂ := L)).symm
theorem isort_perm {α : Type} {lt : α → α → Bool} (L : List α) : (isort lt L).Perm L := by simpa [isort] using foldl_ins_perm (lt := lt) L []
theorem map_ins {α β : Type} {lt : α → α → Bool} {lt' : β → β → Bool} (f : α → β) (h : ∀ x y, lt x y = lt' (f x) (f y)) (x : α) : ∀ (L : List α), (ins lt x L).map f = ins lt' (f x) (L.map f)
  | [] => rfl
  | y :: ys => by
    simp only [ins, List.map_cons, ← h]
    split
    · simp
    · simp [map_ins f h x ys]
theorem map_foldl_ins {α β : Type} {lt : α → α → Bool} {lt' : β → β → Bool} (f : α → β) (h : ∀ x y, lt x y = lt' (f x) (f y)) : ∀ (L o : List α), (L.foldl (fun o x => ins lt x o) o).map f = (L.map f).foldl (fun o x => ins lt' x o) (o.map f)
  | [], o => rfl
  | x :: L, o => by rw [List.foldl_cons, map_foldl_ins f h L, map_ins f h]; rfl
theorem map_isort {α β : Type} {lt : α → α → Bool} {lt' : β → β → Bool} (f : α → β) (h : ∀ x y, lt x y = lt' (f x) (f y)) (L : List α) : (isort lt L).map f = isort lt' (L.map f) := map_foldl_ins f h L []
def ltB (a b : Thing) : Bool := decide (ltT a b)
def sortT (L : List Thing) : List Thing := isort ltB L
/-- Things with their places. -/
def tagL : List Thing → Int → List TT
  | [], _ => []
  | x :: L, k => (x, k) :: tagL L (k + 1)
theorem tagL_map : ∀ (L : List Thing) (k : Int), (tagL L k).map Prod.fst = L
  | [], _ => rfl
  | x :: L, k => by simp [tagL, tagL_map L]
theorem tagL_len (L : List Thing) (k : Int) : (tagL L k).length = L.length := by
  have := congrArg List.length (tagL_map L k)
  simpa using this
theorem tagL_get : ∀ (L : List Thing) (k : Int) (i : Nat), i < L.length → ∃ x, (tagL L k)[i]? = some (x, k + i)
  | [], _, i, h => by simp at h
  | x :: L, k, 0, h => ⟨x, by simp [tagL]⟩
  | x :: L, k, i + 1, h => by
    obtain ⟨y, hy⟩ := tagL_get L (k + 1) i (by simpa using h)
    refine ⟨y, ?_⟩
    simp only [tagL, List.getElem?_cons_succ, hy]
    congr 2; omega
theorem tagL_fresh (L : List Thing) : Fresh (tagL L 0) 0 L.length := by
  intro x h0 h1
  obtain ⟨y, hy⟩ := tagL_get L 0 x.toNat (by omega)
  have := gt_get (L := tagL L 0) h0 (by rw [tagL_len]; omega)
  rw [hy] at this
  injection this with this
  rw [← this]; simp; omega
def ltTT (p q : TT) : Bool := ltB p.1 q.1
theorem ins_sorted {x : TT} : ∀ {L : List TT}, L.Pairwise LT' → (∀ y, y ∈ L → y.2 < x.2) → (ins ltTT x L).Pairwise LT'
  | [], _, _ => by simp [ins]
  | y :: ys, h, ht => by
    have hc := List.pairwise_cons.mp h
    unfold ins
    split
    · rename_i hlt
      have hlt : ltT x.1 y.1 := of_decide_eq_true hlt
      refine List.pairwise_cons.mpr ⟨fun z hz => ?_, h⟩
      rcases List.mem_cons.mp hz with hz | hz
      · subst hz; exact LT_lt hlt
      · exact LT_trans (LT_lt hlt) (hc.1 z hz)
    · rename_i hlt
      have hlt : ¬ ltT x.1 y.1 := by simpa [ltTT, ltB] using hlt
      refine List.pairwise_cons.mpr ⟨fun z hz => ?_, ins_sorted hc.2 fun z hz => ht z (by simp [hz])⟩
      rcases List.mem_cons.mp ((ins_perm ys).mem_iff.mp hz) with hz | hz
      · subst hz; exact LT_of hlt (ht y (by simp))
      · exact hc.1 z hz
theorem tagL_tag : ∀ {L : List Thing} {k : Int} {y : TT}, y ∈ tagL L k → k ≤ y.2
  | [], _, _, h => by cases h
  | x :: L, k, y, h => by
    rcases List.mem_cons.mp h with h | h
    · subst h; simp
    · have := tagL_tag h; omega
theorem foldl_sorted : ∀ (L : List Thing) (k : Int) (o : List TT), o.Pairwise LT' → (∀ y, y ∈ o → y.2 < k) → ((tagL L k).foldl (fun o x => ins ltTT x o) o).Pairwise LT'
  | [], _, o, h, _ => h
  | x :: L, k, o, h, ht => by
    show ((tagL L (k + 1)).foldl _ (ins ltTT (x, k) o)).Pairwise LT'
    refine foldl_sorted L (k + 1) _ (ins_sorted h ht) fun y hy => ?_
    rcases List.mem_cons.mp ((ins_perm o).mem_iff.mp hy) with hy | hy
    · subst hy; simp only; omega
    · have := ht y hy; omega
theorem LT_asymm {p q : TT} (h : LT' p q) (h' : LT' q p) : False := by
  unfold LT' at *
  rcases h with h | ⟨h, h1⟩
  · rcases h' with h' | ⟨h', h2⟩
    · exact ltT_asymm h h'
    · exact h' h
  · rcases h' with h' | ⟨h', h2⟩
    · exact h h'
    · omega
theorem sorted_unique : ∀ {S T : List TT}, S.Pairwise LT' → T.Pairwise LT' → S.Perm T → S = T
  | [], T, _, _, hp => (List.nil_perm.mp hp).symm
  | s :: S, [], _, _, hp => by have := hp.length_eq; simp at this
  | s :: S, t :: T, hs, ht, hp => by
    have hs' := List.pairwise_cons.mp hs
    have ht' := List.pairwise_cons.mp ht
    have e : s = t := by
      rcases List.mem_cons.mp (hp.mem_iff.mp (List.mem_cons_self (a := s) (l := S))) with h | h
      · exact h
      · rcases List.mem_cons.mp (hp.mem_iff.mpr (List.mem_cons_self (a := t) (l := T))) with h' | h'
        · exact h'.symm
        · exact (LT_asymm (ht'.1 s h) (hs'.1 t h')).elim
    subst e
    rw [sorted_unique hs'.2 ht'.2 hp.cons_inv]
/-- What is in order, with the tags of the places it had: the stable sort. -/
theorem srt_sortT {L : List Thing} {T : List TT} (hp : T.Perm (tagL L 0)) (hs : Srt T 0 L.length) : T.map Prod.fst = sortT L := by
  have hlen : T.length = L.length := by rw [hp.length_eq, tagL_len]
  have h1 : T.Pairwise LT' := by
    rw [List.pairwise_iff_getElem]
    intro i j hi hj hij
    have := hs i j (by omega) (by omega) (by omega)
    rwa [gt_eq (by omega) (by omega), gt_eq (by omega) (by omega)] at this
  have h2 : (isort ltTT (tagL L 0)).Pairwise LT' := foldl_sorted L 0 [] List.Pairwise.nil (fun y hy => by cases hy)
  have e := sorted_unique h1 h2 (hp.trans (isort_perm _).symm)
  rw [e, map_isort (lt := ltTT) (lt' := ltB) Prod.fst (fun _ _ => rfl), tagL_map]; rfl
theorem vec_tag {A : Option Addr} {c : Nat} {e : TypeId} (T : List TT) : vec A c e 3 encTT T = vec A c e 3 encThing (T.map Prod.fst) := by
  unfold vec
  have h1 : (T.map Prod.fst).length = T.length := by simp
  have h2 : (T.map Prod.fst).flatMap encThing = T.flatMap encTT := by rw [List.flatMap_map]; rfl
  rw [h1, h2]
end Go.Proofs.Ytblipnjjgbggiaa
