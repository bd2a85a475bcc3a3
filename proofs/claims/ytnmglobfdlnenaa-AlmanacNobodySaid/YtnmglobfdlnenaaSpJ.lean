/- Spans: joining, the plain mathematics. Conditions: none. -/
import Derived.Test.YtnmglobfdlnenaaSp
namespace Go.Proofs.Ytnmglobfdlnenaa
open Go Go.RowKit
set_option linter.unusedVariables false
set_option linter.unusedSimpArgs false
def cov (L : List Sp) (x : Int) : Prop := ∃ s, s ∈ L ∧ s.1 ≤ x ∧ x < s.2
theorem cov_nil {x : Int} : ¬ cov [] x := fun ⟨s, h, _⟩ => by cases h
theorem cov_cons {s : Sp} {L : List Sp} {x : Int} : cov (s :: L) x ↔ (s.1 ≤ x ∧ x < s.2) ∨ cov L x := by
  unfold cov
  constructor
  · rintro ⟨t, ht, h⟩
    rcases List.mem_cons.mp ht with ht | ht
    · subst ht; exact .inl h
    · exact .inr ⟨t, ht, h⟩
  · rintro (h | ⟨t, ht, h⟩)
    · exact ⟨s, by simp, h⟩
    · exact ⟨t, by simp [ht], h⟩
theorem cov_app {A B : List Sp} {x : Int} : cov (A ++ B) x ↔ cov A x ∨ cov B x := by
  unfold cov
  constructor
  · rintro ⟨t, ht, h⟩
    rcases List.mem_append.mp ht with ht | ht
    · exact .inl ⟨t, ht, h⟩
    · exact .inr ⟨t, ht, h⟩
  · rintro (⟨t, ht, h⟩ | ⟨t, ht, h⟩)
    · exact ⟨t, by simp [ht], h⟩
    · exact ⟨t, by simp [ht], h⟩
theorem cov_one {s : Sp} {x : Int} : cov [s] x ↔ (s.1 ≤ x ∧ x < s.2) := by rw [cov_cons]; exact ⟨fun h => h.resolve_right cov_nil, .inl⟩
theorem cov_any {L : List Sp} {x : Int} : L.any (hasIn x) = true ↔ cov L x := by
  unfold cov hasIn
  rw [List.any_eq_true]
  simp only [decide_eq_true_eq]
structure Canon (R : List Sp) : Prop where
  right : ∀ s, s ∈ R → RightP s
  gap : R.Pairwise fun s t => s.2 < t.1
theorem Canon.nil : Canon [] := ⟨fun _ h => (by cases h), List.Pairwise.nil⟩
theorem Canon.tail {s : Sp} {R : List Sp} (h : Canon (s :: R)) : Canon R := ⟨fun t ht => h.right t (by simp [ht]), (List.pairwise_cons.mp h.gap).2⟩
theorem Canon.head {s : Sp} {R : List Sp} (h : Canon (s :: R)) {x : Int} (hx : cov (s :: R) x) : s.1 ≤ x := by
  rcases cov_cons.mp hx with hx | ⟨t, ht, hx⟩
  · exact hx.1
  · have := (List.pairwise_cons.mp h.gap).1 t ht
    have h1 := h.right s (by simp)
    unfold RightP at h1
    omega
theorem Canon.rest {s : Sp} {R : List Sp} (h : Canon (s :: R)) {x : Int} (hx : cov R x) : s.2 < x := by
  obtain ⟨t, ht, hx⟩ := hx
  have := (List.pairwise_cons.mp h.gap).1 t ht
  omega
/-- What is covered tells the row. -/
theorem canon_unique : ∀ {R S : List Sp}, Canon R → Canon S → (∀ x, cov R x ↔ cov S x) → R = S
  | [], [], _, _, _ => rfl
  | [], t :: S, _, hS, h => by
    have h1 := hS.right t (by simp)
    unfold RightP at h1
    exact absurd ((h t.1).mpr (cov_cons.mpr (.inl (by omega)))) cov_nil
  | s :: R, [], hR, _, h => by
    have h1 := hR.right s (by simp)
    unfold RightP at h1
    exact absurd ((h s.1).mp (cov_cons.mpr (.inl (by omega)))) cov_nil
  | s :: R, t :: S, hR, hS, h => by
    have h1 := hR.right s (by simp)
    have h2 := hS.right t (by simp)
    unfold RightP at h1 h2
    have e1 : s.1 = t.1 := by
      have a1 := hS.head ((h s.1).mp (cov_cons.mpr (.inl (by omega))))
      have a2 := hR.head ((h t.1).mpr (cov_cons.mpr (.inl (by omega))))
      omega
    have e2 : s.2 = t.2 := by
      rcases Int.lt_trichotomy s.2 t.2 with hlt | heq | hgt
      · rcases cov_cons.mp ((h s.2).mpr (cov_cons.mpr (.inl (by omega)))) with hx | hx
        · omega
        · have := hR.rest hx; omega
      · exact heq
      · rcases cov_cons.mp ((h t.2).mp (cov_cons.mpr (.inl (by omega)))) with hx | hx
        · omega
        · have := hS.rest hx; omega
    have e : s = t := Prod.ext e1 e2
    subst e
    rw [canon_unique hR.tail hS.tail fun x => ?_]
    constructor
    · intro hx
      rcases cov_cons.mp ((h x).mp (cov_cons.mpr (.inr hx))) with hy | hy
      · have := hR.rest hx; omega
      · exact hy
    · intro hx
      rcases cov_cons.mp ((h x).mpr (cov_cons.mpr (.inr hx))) with hy | hy
      · have := hS.rest hx; omega
      · exact hy
def JoinOf (L R : List Sp) : Prop := ((∃ s, s ∈ L ∧ ¬ RightP s) ∧ R = []) ∨ ((∀ s, s ∈ L → RightP s) ∧ Canon R ∧ (∀ x, cov R x ↔ cov L x) ∧ R.length ≤ L.length)
theorem JoinOf.same {L R S : List Sp} (h : JoinOf L R) (h' : JoinOf L S) : R = S := by
  rcases h with ⟨⟨s, hs, hn⟩, rfl⟩ | ⟨hr, hc, hv, _⟩
  · rcases h' with ⟨_, rfl⟩ | ⟨hr, _⟩
    · rfl
    · exact absurd (hr s hs) hn
  · rcases h' with ⟨⟨s, hs, hn⟩, _⟩ | ⟨_, hc', hv', _⟩
    · exact absurd (hr s hs) hn
    · exact canon_unique hc hc' fun x => (hv x).trans (hv' x).symm
theorem canon_snoc {R : List Sp} {l : Sp} : Canon (R ++ [l]) ↔ Canon R ∧ RightP l ∧ ∀ t, t ∈ R → t.2 < l.1 := by
  constructor
  · intro h
    have hp := List.pairwise_append.mp h.gap
    exact ⟨⟨fun s hs => h.right s (by simp [hs]), hp.1⟩, h.right l (by simp), fun t ht => hp.2.2 t ht l (by simp)⟩
  · rintro ⟨h1, h2, h3⟩
    refine ⟨fun s hs => ?_, List.pairwise_append.mpr ⟨h1.gap, by simp, fun s hs t ht => ?_⟩⟩
    · rcases List.mem_append.mp hs with hs | hs
      · exact h1.right s hs
      · simp at hs; subst hs; exact h2
    · simp at ht; subst ht; exact h3 s hs
theorem last_split {R : List Sp} (h : 0 < R.length) : ∃ R0 l, R = R0 ++ [l] ∧ gt R ((R.length : Int) - 1) = l ∧ ∀ y, R.set ((R.length : Int) - 1).toNat y = R0 ++ [y] := by
  have hne : R ≠ [] := by intro e; subst e; simp at h
  refine ⟨R.dropLast, R.getLast hne, (List.dropLast_concat_getLast hne).symm, ?_, fun y => ?_⟩
  · rw [gt_eq (by omega) (by omega), List.getLast_eq_getElem]
    congr 1 <;> omega
  · have e : ((R.length : Int) - 1).toNat = R.dropLast.length := by rw [List.length_dropLast]; omega
    conv => lhs; rw [e]; arg 1; rw [← List.dropLast_concat_getLast hne]
    rw [List.set_append_right _ _ (Nat.le_refl _), Nat.sub_self]
    rfl
/-- The end of a canonical row lies above all of it. -/
theorem canon_last {R : List Sp} (hc : Canon R) (h : 0 < R.length) : ∀ t, t ∈ R → t.2 ≤ (gt R ((R.length : Int) - 1)).2 := by
  obtain ⟨R0, l, e, hl, _⟩ := last_split h
  intro t ht
  rw [hl]
  subst e
  have h3 := canon_snoc.mp hc
  rcases List.mem_append.mp ht with ht | ht
  · have := h3.2.2 t ht
    have h4 := h3.2.1
    unfold RightP at h4
    omega
  · simp at ht; subst ht; omega
structure Mrg (D : List Sp) (i : Int) (R : List Sp) : Prop where
  canon : Canon R
  covs : ∀ x, cov R x ↔ cov (D.take i.toNat) x
  len : R.length ≤ i.toNat
  low : ∀ t, t ∈ R → ∀ s, s ∈ D.drop i.toNat → t.1 ≤ s.1
theorem mrg_start {D : List Sp} : Mrg D 0 [] := ⟨.nil, fun x => by simp, by simp, fun t ht => by cases ht⟩
theorem sorted_rest {D : List Sp} (hs : D.Pairwise fun x y => x.1 ≤ y.1) {i : Int} (h0 : 0 ≤ i) (h1 : i < D.length) : ∀ s, s ∈ D.drop (i + 1).toNat → (gt D i).1 ≤ s.1 := by
  have h := hs.sublist (List.drop_sublist i.toNat D)
  rw [drop_gt h0 h1] at h
  exact (List.pairwise_cons.mp h).1
theorem mrg_app {D R : List Sp} {i : Int} (h : Mrg D i R) (hs : D.Pairwise fun x y => x.1 ≤ y.1) (h0 : 0 ≤ i) (h1 : i < D.length) (hr : RightP (gt D i)) (hc : R.length = 0 ∨ (gt R ((R.length : Int) - 1)).2 < (gt D i).1) : Mrg D (i + 1) (R ++ [gt D i]) := by
  refine ⟨canon_snoc.mpr ⟨h.canon, hr, fun t ht => ?_⟩, fun x => ?_, by have := h.len; simp; omega, fun t ht s hss => ?_⟩
  · rcases hc with hc | hc
    · have := List.eq_nil_of_length_eq_zero hc; subst this; cases ht
    · have := canon_last h.canon (List.length_pos_of_mem ht) t ht; omega
  · rw [cov_app, take_gt h0 h1, cov_app, h.covs x]
  · rcases List.mem_append.mp ht with ht | ht
    · exact h.low t ht s (by rw [drop_gt h0 h1]; simp [hss])
    · simp at ht; subst ht; exact sorted_rest hs h0 h1 s hss
theorem mrg_ext {D R : List Sp} {i : Int} (h : Mrg D i R) (h0 : 0 ≤ i) (h1 : i < D.length) (hr : RightP (gt D i)) (hp : 0 < R.length) (hc : (gt D i).1 ≤ (gt R ((R.length : Int) - 1)).2) :
    Mrg D (i + 1) (R.set ((R.length : Int) - 1).toNat ((gt R ((R.length : Int) - 1)).1, max (gt R ((R.length : Int) - 1)).2 (gt D i).2)) := by
  obtain ⟨R0, l, e, hl, hset⟩ := last_split hp
  rw [hl] at hc ⊢
  rw [hset]
  have hcan := h.canon
  have hcov := h.covs
  have hlow := h.low
  have hlen := h.len
  subst e
  have h3 := canon_snoc.mp hcan
  have h4 := h3.2.1
  unfold RightP at h4 hr
  have hls : l.1 ≤ (gt D i).1 := hlow l (by simp) _ (by rw [drop_gt h0 h1]; simp)
  refine ⟨canon_snoc.mpr ⟨h3.1, ?_, h3.2.2⟩, fun x => ?_, by simp at hlen ⊢; omega, fun t ht s hss => ?_⟩
  · unfold RightP; simp only; omega
  · have e1 := hcov x
    rw [cov_app] at e1
    rw [cov_app, take_gt h0 h1, cov_app, ← e1, cov_one, cov_one, cov_one]
    simp only
    constructor
    · rintro (hx | hx)
      · exact .inl (.inl hx)
      · rcases Int.lt_or_le x l.2 with hl2 | hl2
        · exact .inl (.inr (by omega))
        · exact .inr (by omega)
    · rintro ((hx | hx) | hx)
      · exact .inl hx
      · exact .inr (by omega)
      · exact .inr (by omega)
  · have hs' : s ∈ D.drop i.toNat := by rw [drop_gt h0 h1]; simp [hss]
    rcases List.mem_append.mp ht with ht | ht
    · exact hlow t (by simp [ht]) s hs'
    · simp at ht; subst ht; exact hlow l (by simp) s hs'
theorem mrg_end {D L R : List Sp} {i : Int} (h : Mrg D i R) (hP : D.Perm L) (hr : ∀ s, s ∈ L → RightP s) (hi : i = D.length) : JoinOf L R := by
  refine .inr ⟨hr, h.canon, fun x => ?_, by have := h.len; have := hP.length_eq; omega⟩
  rw [h.covs x, List.take_of_length_le (by omega)]
  unfold cov
  simp only [hP.mem_iff]

/-! ### the other way: from the lowest one that is new -/
def isNew (O : List Sp) (s : Sp) : Prop := O.length = 0 ∨ (gt O ((O.length : Int) - 1)).2 < s.1
instance (O : List Sp) (s : Sp) : Decidable (isNew O s) := by unfold isNew; infer_instance
def news (L O : List Sp) : Nat := L.countP fun s => decide (isNew O s)
structure Grw (L O : List Sp) : Prop where
  canon : Canon O
  sub : ∀ x, cov O x → cov L x
  old : ∀ s, s ∈ L → ¬ isNew O s → ∀ x, s.1 ≤ x → x < s.2 → cov O x
  cnt : O.length + news L O ≤ L.length
theorem grw_start {L : List Sp} : Grw L [] := ⟨.nil, fun x h => absurd h cov_nil, fun s hs hn => absurd (.inl rfl) hn, by unfold news; simp; exact List.countP_le_length⟩
def Lowest (L O : List Sp) (k n : Int) : Prop := -1 ≤ n ∧ n < L.length ∧ (n = -1 → ∀ s, s ∈ L.take k.toNat → ¬ isNew O s) ∧ (0 ≤ n → isNew O (gt L n) ∧ ∀ s, s ∈ L.take k.toNat → isNew O s → (gt L n).1 ≤ s.1)
theorem lowest_start {L O : List Sp} : Lowest L O 0 (-1) := ⟨by omega, by omega, fun _ s hs => by simp at hs, fun h => by omega⟩
theorem lowest_skip {L O : List Sp} {k n : Int} (h : Lowest L O k n) (h0 : 0 ≤ k) (h1 : k < L.length) (hn : ¬ isNew O (gt L k) ∨ (0 ≤ n ∧ (gt L n).1 ≤ (gt L k).1)) : Lowest L O (k + 1) n := by
  refine ⟨h.1, h.2.1, fun e s hs => ?_, fun e => ⟨(h.2.2.2 e).1, fun s hs hw => ?_⟩⟩
  · rw [take_gt h0 h1] at hs
    rcases List.mem_append.mp hs with hs | hs
    · exact h.2.2.1 e s hs
    · simp at hs; subst hs; exact hn.resolve_right (by omega)
  · rw [take_gt h0 h1] at hs
    rcases List.mem_append.mp hs with hs | hs
    · exact (h.2.2.2 e).2 s hs hw
    · simp at hs; subst hs
      rcases hn with hn | hn
      · exact absurd hw hn
      · exact hn.2
theorem lowest_take {L O : List Sp} {k n : Int} (h : Lowest L O k n) (h0 : 0 ≤ k) (h1 : k < L.length) (hw : isNew O (gt L k)) (hn : n < 0 ∨ (gt L k).1 < (gt L n).1) : Lowest L O (k + 1) k := by
  refine ⟨by omega, h1, fun e => by omega, fun _ => ⟨hw, fun s hs hs' => ?_⟩⟩
  rw [take_gt h0 h1] at hs
  rcases List.mem_append.mp hs with hs | hs
  · rcases hn with hn | hn
    · exact absurd hs' (h.2.2.1 (by have := h.1; omega) s hs)
    · by_cases hn0 : 0 ≤ n
      · have := (h.2.2.2 hn0).2 s hs hs'; omega
      · exact absurd hs' (h.2.2.1 (by have := h.1; omega) s hs)
  · simp at hs; subst hs; omega
structure Gr (L : List Sp) (a b : Int) : Prop where
  lt : a < b
  top : b ≤ 1125899906842624
  all : ∀ x, a ≤ x → x < b → cov L x
theorem gr_start {L : List Sp} {n : Int} (h0 : 0 ≤ n) (h1 : n < L.length) (hr : RightP (gt L n)) : Gr L (gt L n).1 (gt L n).2 :=
  ⟨hr.2.1, hr.2.2, fun x h h' => ⟨gt L n, gt_mem h0 h1, h, h'⟩⟩
theorem gr_step {L : List Sp} {a b k : Int} (h : Gr L a b) (h0 : 0 ≤ k) (h1 : k < L.length) (hr : RightP (gt L k)) (ha : a ≤ (gt L k).1) (hb : (gt L k).1 ≤ b) (hc : b < (gt L k).2) : Gr L a (gt L k).2 := by
  refine ⟨by have := h.lt; omega, hr.2.2, fun x h2 h3 => ?_⟩
  by_cases hx : x < b
  · exact h.all x h2 hx
  · exact ⟨gt L k, gt_mem h0 h1, by omega, h3⟩
def Stable (L : List Sp) (k a b : Int) : Prop := ∀ s, s ∈ L.take k.toNat → a ≤ s.1 → s.1 ≤ b → s.2 ≤ b
theorem stable_start {L : List Sp} {a b : Int} : Stable L 0 a b := fun s hs => by simp at hs
theorem stable_step {L : List Sp} {k a b : Int} (h : Stable L k a b) (h0 : 0 ≤ k) (h1 : k < L.length) (hn : a ≤ (gt L k).1 → (gt L k).1 ≤ b → (gt L k).2 ≤ b) : Stable L (k + 1) a b := by
  intro s hs
  rw [take_gt h0 h1] at hs
  rcases List.mem_append.mp hs with hs | hs
  · exact h s hs
  · simp at hs; subst hs; exact hn
theorem countP_lt {α : Type} {p q : α → Bool} : ∀ {L : List α}, (∀ s, s ∈ L → q s = true → p s = true) → (∃ s, s ∈ L ∧ p s = true ∧ q s = false) → L.countP q < L.countP p
  | [], _, ⟨s, hs, _⟩ => by cases hs
  | x :: L, h, ⟨s, hs, hp, hq⟩ => by
    rcases List.mem_cons.mp hs with hs | hs
    · subst hs
      have hle : L.countP q ≤ L.countP p := List.countP_mono_left fun y hy hqy => h y (by simp [hy]) hqy
      simp only [List.countP_cons, hp, hq]; simp; omega
    · have ih := countP_lt (L := L) (fun y hy => h y (by simp [hy])) ⟨s, hs, hp, hq⟩
      have hx := h x (by simp)
      simp only [List.countP_cons]
      cases hqx : q x with
      | true => rw [hx hqx]; simp; omega
      | false => cases p x <;> simp <;> omega
theorem snoc_last (O : List Sp) (l : Sp) : gt (O ++ [l]) (((O ++ [l]).length : Int) - 1) = l := by
  rw [gt_eq (by simp) (by simp; omega)]
  simp
theorem grw_step {L O : List Sp} {n a b : Int} (h : Grw L O) (hl : Lowest L O L.length n) (hn : 0 ≤ n) (hr : ∀ s, s ∈ L → RightP s) (ha : a = (gt L n).1) (hg : Gr L a b) (hs : Stable L L.length a b) : Grw L (O ++ [(a, b)]) := by
  obtain ⟨hl0, hl1, _, hl2⟩ := hl
  obtain ⟨hnew, hmin⟩ := hl2 hn
  have hrn := hr _ (gt_mem hn hl1)
  have hfull : L.take ((L.length : Int)).toNat = L := List.take_of_length_le (by omega)
  rw [hfull] at hmin
  unfold Stable at hs
  rw [hfull] at hs
  have hlt := hg.lt
  have hlast : ∀ s, isNew (O ++ [(a, b)]) s ↔ b < s.1 := by
    intro s
    unfold isNew
    rw [snoc_last]
    simp
  have hup : ∀ s : Sp, b < s.1 → isNew O s := by
    intro s hb
    rcases hnew with h' | h'
    · exact .inl h'
    · exact .inr (by omega)
  refine ⟨canon_snoc.mpr ⟨h.canon, ⟨by have := hrn.1; simp only; omega, hlt, hg.top⟩, fun t ht => ?_⟩, fun x hx => ?_, fun s hs' hn' x h1 h2 => ?_, ?_⟩
  · rcases hnew with h' | h'
    · have := List.eq_nil_of_length_eq_zero h'; subst this; cases ht
    · have := canon_last h.canon (List.length_pos_of_mem ht) t ht; simp only; omega
  · rcases cov_app.mp hx with hx | hx
    · exact h.sub x hx
    · have := cov_one.mp hx; exact hg.all x this.1 this.2
  · rw [hlast] at hn'
    rw [cov_app]
    by_cases ho : isNew O s
    · have h3 := hmin s hs' ho
      have h4 := hs s hs' (by omega) (by omega)
      exact .inr (cov_one.mpr ⟨by simp only; omega, by simp only; omega⟩)
    · exact .inl (h.old s hs' ho x h1 h2)
  · have hc := h.cnt
    have : news L (O ++ [(a, b)]) < news L O := by
      unfold news
      refine countP_lt (fun s _ hq => ?_) ⟨gt L n, gt_mem hn hl1, decide_eq_true hnew, ?_⟩
      · exact decide_eq_true (hup s ((hlast s).mp (of_decide_eq_true hq)))
      · exact decide_eq_false (by rw [hlast]; omega)
    simp only [List.length_append, List.length_cons, List.length_nil]
    omega
theorem grw_end {L O : List Sp} {n : Int} (h : Grw L O) (hl : Lowest L O L.length n) (hn : n < 0) (hr : ∀ s, s ∈ L → RightP s) : JoinOf L O := by
  have h1 := hl.2.2.1 (by have := hl.1; omega)
  rw [List.take_of_length_le (by omega)] at h1
  refine .inr ⟨hr, h.canon, fun x => ⟨h.sub x, fun ⟨s, hs, hx⟩ => h.old s hs (h1 s hs) x hx.1 hx.2⟩, by have := h.cnt; omega⟩
theorem right_step {L : List Sp} {i : Int} (h : ∀ s, s ∈ L.take i.toNat → RightP s) (h0 : 0 ≤ i) (h1 : i < L.length) (hr : RightP (gt L i)) : ∀ s, s ∈ L.take (i + 1).toNat → RightP s := by
  intro s hs
  rw [take_gt h0 h1] at hs
  rcases List.mem_append.mp hs with hs | hs
  · exact h s hs
  · simp at hs; subst hs; exact hr
theorem gr_mu {L : List Sp} {a b b' : Int} {ag : Bool} (hg : Gr L a b') (hb : b ≤ b') (h1 : ag = true → b < b') (h2 : ag = false → b' = b) :
    (1125899906842624 - b').toNat * 2 + ag.toNat < (1125899906842624 - b).toNat * 2 + true.toNat := by
  have := hg.top
  cases ag with
  | true => have := h1 rfl; simp; omega
  | false => have := h2 rfl; subst this; simp
end Go.Proofs.Ytnmglobfdlnenaa
