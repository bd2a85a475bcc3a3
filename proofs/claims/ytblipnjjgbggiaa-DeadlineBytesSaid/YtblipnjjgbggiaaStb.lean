/- Things in order, kept stable: the plain mathematics. A tag tells where a thing stood at first. Conditions: none. -/
import Derived.Test.YtblipnjjgbggiaaLst
namespace Go.Proofs.Ytblipnjjgbggiaa
open Go Go.RowKit
set_option linter.unusedVariables false
set_option linter.unusedSimpArgs false
abbrev TT := Thing × Int
/-- Which of two stands first by due and number. -/
def ltT (a b : Thing) : Prop := a.due < b.due ∨ (a.due = b.due ∧ a.id < b.id)
instance (a b : Thing) : Decidable (ltT a b) := by unfold ltT; infer_instance
/-- .. and, where neither does, the one that stood first. -/
def LT' (p q : TT) : Prop := ltT p.1 q.1 ∨ (¬ ltT q.1 p.1 ∧ p.2 < q.2)
theorem ltT_trans {a b c : Thing} (h : ltT a b) (h' : ltT b c) : ltT a c := by unfold ltT at *; omega
theorem ltT_ntrans {a b c : Thing} (h : ¬ ltT b a) (h' : ¬ ltT c b) : ¬ ltT c a := by unfold ltT at *; omega
theorem ltT_asymm {a b : Thing} (h : ltT a b) : ¬ ltT b a := by unfold ltT at *; omega
theorem ltT_nlt {a b c : Thing} (h : ltT a b) (h' : ¬ ltT c b) : ltT a c := by unfold ltT at *; omega
theorem ltT_ltn {a b c : Thing} (h : ¬ ltT b a) (h' : ltT b c) : ltT a c := by unfold ltT at *; omega
theorem LT_trans {p q r : TT} (h : LT' p q) (h' : LT' q r) : LT' p r := by
  unfold LT' at *
  rcases h with h | ⟨h, h1⟩
  · rcases h' with h' | ⟨h', h2⟩
    · exact .inl (ltT_trans h h')
    · exact .inl (ltT_nlt h h')
  · rcases h' with h' | ⟨h', h2⟩
    · exact .inl (ltT_ltn h h')
    · exact .inr ⟨ltT_ntrans h h', by omega⟩
theorem LT_le {p q : TT} (h : LT' p q) : ¬ ltT q.1 p.1 := by
  rcases h with h | ⟨h, _⟩
  · exact ltT_asymm h
  · exact h
theorem LT_of {p q : TT} (h : ¬ ltT q.1 p.1) (ht : p.2 < q.2) : LT' p q := .inr ⟨h, ht⟩
theorem LT_lt {p q : TT} (h : ltT p.1 q.1) : LT' p q := .inl h
/-- In order from a on, below b. -/
def Srt (T : List TT) (a b : Int) : Prop := ∀ i j, a ≤ i → i < j → j < b → LT' (gt T i) (gt T j)
theorem Srt.mono {T : List TT} {a b a' b' : Int} (h : Srt T a b) (ha : a ≤ a') (hb : b' ≤ b) : Srt T a' b' := fun i j h0 h1 h2 => h i j (by omega) h1 (by omega)
/-- All that moved moved within a .. b. -/
structure Mv (a b : Int) (T T' : List TT) : Prop where
  len : T'.length = T.length
  perm : T'.Perm T
  out : ∀ x, 0 ≤ x → (x < a ∨ b ≤ x) → gt T' x = gt T x
  ins : ∀ x, a ≤ x → x < b → ∃ y, a ≤ y ∧ y < b ∧ gt T' x = gt T y
theorem Mv.refl (a b : Int) (T : List TT) : Mv a b T T := ⟨rfl, List.Perm.refl _, fun _ _ _ => rfl, fun x h h' => ⟨x, h, h', rfl⟩⟩
theorem Mv.trans {a b : Int} {T T' T'' : List TT} (h : Mv a b T T') (h' : Mv a b T' T'') : Mv a b T T'' :=
  ⟨h'.len.trans h.len, h'.perm.trans h.perm, fun x h0 hx => (h'.out x h0 hx).trans (h.out x h0 hx), fun x hx hx' => by
    obtain ⟨y, hy, hy', e⟩ := h'.ins x hx hx'
    obtain ⟨z, hz, hz', e'⟩ := h.ins y hy hy'
    exact ⟨z, hz, hz', e.trans e'⟩⟩
theorem Mv.mono {a b a' b' : Int} {T T' : List TT} (h : Mv a' b' T T') (h0 : 0 ≤ a) (ha : a ≤ a') (hb : b' ≤ b) : Mv a b T T' :=
  ⟨h.len, h.perm, fun x h0 hx => h.out x h0 (by omega), fun x hx hx' => by
    by_cases hin : a' ≤ x ∧ x < b'
    · obtain ⟨y, hy, hy', e⟩ := h.ins x hin.1 hin.2
      exact ⟨y, by omega, by omega, e⟩
    · exact ⟨x, hx, hx', h.out x (by omega) (by omega)⟩⟩
def swT (M : List TT) (i k : Int) : List TT := (M.set i.toNat (gt M k)).set k.toNat (gt M i)
theorem swT_len (M : List TT) (i k : Int) : (swT M i k).length = M.length := by simp [swT]
theorem gt_set {α : Type} [Inhabited α] {L : List α} {i j : Int} {x : α} (h0 : 0 ≤ i) (h1 : i < L.length) (j0 : 0 ≤ j) : gt (L.set j.toNat x) i = if i = j then x else gt L i := by
  split
  · rename_i h; subst h; rw [gt_eq h0 (by simpa using h1), List.getElem_set_self]
  · rename_i h; exact gt_set_ne h0 h1 j0 h
theorem swT_gt {M : List TT} {i k x : Int} (hi : 0 ≤ i) (hk : 0 ≤ k) (hx : 0 ≤ x) (hx1 : x < M.length) : gt (swT M i k) x = if x = k then gt M i else if x = i then gt M k else gt M x := by
  unfold swT
  rw [gt_set hx (by simpa using hx1) hk, gt_set hx hx1 hi]
theorem swT_mv {M : List TT} {i k a b : Int} (ha : 0 ≤ a) (hb : b ≤ M.length) (hi : a ≤ i) (hi1 : i < b) (hk : a ≤ k) (hk1 : k < b) : Mv a b M (swT M i k) := by
  refine ⟨swT_len _ _ _, ?_, fun x h0 hx => ?_, fun x hx hx' => ?_⟩
  · unfold swT
    rw [gt_eq (by omega) (by omega), gt_eq (by omega) (by omega)]
    exact List.set_set_perm (by omega) (by omega)
  · rcases Int.lt_or_le x M.length with h | h
    · rw [swT_gt (by omega) (by omega) h0 h, if_neg (by omega), if_neg (by omega)]
    · unfold gt
      rw [List.getD_eq_getElem?_getD, List.getD_eq_getElem?_getD, List.getElem?_eq_none (by rw [swT_len]; omega), List.getElem?_eq_none (by omega)]
  · rw [swT_gt (by omega) (by omega) (by omega) (by omega)]
    split
    · exact ⟨i, hi, hi1, rfl⟩
    · split
      · exact ⟨k, hk, hk1, rfl⟩
      · exact ⟨x, hx, hx', rfl⟩
/-- The tags before m are less than those behind. -/
def Tg (T : List TT) (a m b : Int) : Prop := ∀ i j, a ≤ i → i < m → m ≤ j → j < b → (gt T i).2 < (gt T j).2

/-! ### one thing goes down -/
/-- At j stands what came last; all else is in order, and it stands before what is behind j. -/
structure Hole (T : List TT) (a j i : Int) : Prop where
  low : ∀ p q, a ≤ p → p < q → q ≤ i → p ≠ j → q ≠ j → LT' (gt T p) (gt T q)
  up : ∀ q, j < q → q ≤ i → LT' (gt T j) (gt T q)
  tag : ∀ p, a ≤ p → p < j → (gt T p).2 < (gt T j).2
theorem hole_start {T : List TT} {a i : Int} (hs : Srt T a i) (ht : ∀ p, a ≤ p → p < i → (gt T p).2 < (gt T i).2) : Hole T a i i :=
  ⟨fun p q h0 h1 h2 h3 h4 => hs p q h0 h1 (by omega), fun q h h' => by omega, fun p h0 h1 => ht p h0 h1⟩
theorem hole_down {T : List TT} {a j i : Int} (h : Hole T a j i) (h0 : 0 ≤ a) (hj : a < j) (hji : j ≤ i) (hi : i < T.length) (hlt : ltT (gt T j).1 (gt T (j - 1)).1) : Hole (swT T j (j - 1)) a (j - 1) i := by
  have g : ∀ x : Int, 0 ≤ x → x < T.length → gt (swT T j (j - 1)) x = if x = j - 1 then gt T j else if x = j then gt T (j - 1) else gt T x := fun x hx hx1 => swT_gt (by omega) (by omega) hx hx1
  refine ⟨fun p q h1 h2 h3 h4 h5 => ?_, fun q h1 h2 => ?_, fun p h1 h2 => ?_⟩
  · rw [g p (by omega) (by omega), g q (by omega) (by omega), if_neg h4, if_neg h5]
    by_cases hp : p = j
    · subst hp
      rw [if_pos rfl, if_neg (by omega)]
      exact h.low (p - 1) q (by omega) (by omega) h3 (by omega) (by omega)
    · rw [if_neg hp]
      by_cases hq : q = j
      · subst hq
        rw [if_pos rfl]
        exact h.low p (q - 1) h1 (by omega) (by omega) hp (by omega)
      · rw [if_neg hq]; exact h.low p q h1 h2 h3 hp hq
  · rw [g (j - 1) (by omega) (by omega), if_pos rfl, g q (by omega) (by omega), if_neg (by omega)]
    by_cases hq : q = j
    · rw [if_pos hq]; exact LT_lt hlt
    · rw [if_neg hq]; exact h.up q (by omega) h2
  · rw [g p (by omega) (by omega), g (j - 1) (by omega) (by omega), if_neg (by omega), if_neg (by omega), if_pos rfl]
    exact h.tag p h1 (by omega)
theorem hole_end {T : List TT} {a j i : Int} (h : Hole T a j i) (hj : a ≤ j) (he : j = a ∨ ¬ ltT (gt T j).1 (gt T (j - 1)).1) : Srt T a (i + 1) := by
  intro p q h0 h1 h2
  by_cases hp : p = j
  · subst hp; exact h.up q h1 (by omega)
  · by_cases hq : q = j
    · subst hq
      have hd := he.resolve_left (by omega)
      have hlast : LT' (gt T (q - 1)) (gt T q) := LT_of hd (h.tag _ (by omega) (by omega))
      by_cases hp' : p = q - 1
      · subst hp'; exact hlast
      · exact LT_trans (h.low p (q - 1) h0 (by omega) (by omega) hp (by omega)) hlast
    · exact h.low p q h0 h1 (by omega) hp hq

/-! ### two rows that change places -/
def swR (T T' : List TT) (a b n : Int) : Prop := ∀ x : Int, 0 ≤ x → x < T.length → gt T' x = if a ≤ x ∧ x < a + n then gt T (x - a + b) else if b ≤ x ∧ x < b + n then gt T (x - b + a) else gt T x
theorem swR_start {T : List TT} {a b : Int} : swR T T a b 0 := fun x _ _ => by rw [if_neg (by omega), if_neg (by omega)]
theorem swR_step {T T' : List TT} {a b n : Int} (h : swR T T' a b n) (hl : T'.length = T.length) (ha : 0 ≤ a) (hb : 0 ≤ b) (hn : 0 ≤ n) (hd : a + n < b ∨ b + n < a) (h1 : a + n < T.length) (h2 : b + n < T.length) : swR T (swT T' (a + n) (b + n)) a b (n + 1) := by
  intro x h0 hx
  have ga := h (a + n) (by omega) (by omega)
  have gb := h (b + n) (by omega) (by omega)
  rw [if_neg (by omega), if_neg (by omega)] at ga gb
  rw [swT_gt (by omega) (by omega) h0 (by omega), ga, gb]
  by_cases e1 : x = b + n
  · subst e1
    rw [if_pos rfl, if_neg (by omega), if_pos (by omega)]
    congr 1; omega
  · rw [if_neg e1]
    by_cases e2 : x = a + n
    · subst e2
      rw [if_pos rfl, if_pos (by omega)]
      congr 1; omega
    · rw [if_neg e2, h x h0 hx]
      by_cases c1 : a ≤ x ∧ x < a + n
      · rw [if_pos c1, if_pos (by omega)]
      · rw [if_neg c1]
        by_cases c2 : b ≤ x ∧ x < b + n
        · rw [if_pos c2, if_neg (by omega), if_pos (by omega)]
        · rw [if_neg c2, if_neg (by omega), if_neg (by omega)]
/-! ### a row that is turned -/
def rotV (T : List TT) (a m b x : Int) : TT := if x < a + (b - m) then gt T (x - a + m) else gt T (x - (b - m))
/-- What is still to be turned: the i before m, the j behind. -/
structure Rot (T0 : List TT) (a m b : Int) (T : List TT) (i j : Int) : Prop where
  done : ∀ x, a ≤ x → x < b → (x < m - i ∨ m + j ≤ x) → gt T x = rotV T0 a m b x
  left : ∀ x, m - i ≤ x → x < m - i + j → rotV T0 a m b x = gt T (x + i)
  right : ∀ x, m - i + j ≤ x → x < m + j → rotV T0 a m b x = gt T (x - j)
theorem rot_start {T : List TT} {a m b : Int} : Rot T a m b T (m - a) (b - m) :=
  ⟨fun x _ _ _ => by omega, fun x h0 h1 => by unfold rotV; rw [if_pos (by omega)]; congr 1; omega, fun x h0 h1 => by unfold rotV; rw [if_neg (by omega)]⟩
theorem rot_gt {T0 T T' : List TT} {a m b i j : Int} (h : Rot T0 a m b T i j) (ha : 0 ≤ a) (hb : b ≤ T.length) (hi : i ≤ m - a) (hj : j ≤ b - m) (hj0 : 0 < j) (hij : j < i) (hs : swR T T' (m - i) m j) : Rot T0 a m b T' (i - j) j := by
  refine ⟨fun x h0 h1 h2 => ?_, fun x h0 h1 => ?_, fun x h0 h1 => ?_⟩
  · rw [hs x (by omega) (by omega)]
    by_cases c1 : m - i ≤ x ∧ x < m - i + j
    · rw [if_pos c1, h.left x c1.1 c1.2]; congr 1; omega
    · rw [if_neg c1, if_neg (by omega)]; exact h.done x h0 h1 (by omega)
  · rw [h.right x (by omega) (by omega), hs (x + (i - j)) (by omega) (by omega), if_neg (by omega), if_pos (by omega)]
    congr 1; omega
  · rw [h.right x (by omega) (by omega), hs (x - j) (by omega) (by omega), if_neg (by omega), if_neg (by omega)]
theorem rot_lt {T0 T T' : List TT} {a m b i j : Int} (h : Rot T0 a m b T i j) (ha : 0 ≤ a) (hb : b ≤ T.length) (hi : i ≤ m - a) (hj : j ≤ b - m) (hi0 : 0 < i) (hij : i < j) (hs : swR T T' (m - i) (m + j - i) i) : Rot T0 a m b T' i (j - i) := by
  refine ⟨fun x h0 h1 h2 => ?_, fun x h0 h1 => ?_, fun x h0 h1 => ?_⟩
  · rw [hs x (by omega) (by omega)]
    by_cases c1 : m + j - i ≤ x ∧ x < m + j - i + i
    · rw [if_neg (by omega), if_pos c1, h.right x (by omega) (by omega)]; congr 1; omega
    · rw [if_neg (by omega), if_neg c1]; exact h.done x h0 h1 (by omega)
  · rw [h.left x (by omega) (by omega), hs (x + i) (by omega) (by omega), if_neg (by omega), if_neg (by omega)]
  · rw [h.left x (by omega) (by omega), hs (x - (j - i)) (by omega) (by omega), if_pos (by omega)]
    congr 1; omega
theorem rot_end {T0 T T' : List TT} {a m b i : Int} (h : Rot T0 a m b T i i) (ha : 0 ≤ a) (hb : b ≤ T.length) (hi : i ≤ m - a) (hj : i ≤ b - m) (hi0 : 0 < i) (hs : swR T T' (m - i) m i) : ∀ x, a ≤ x → x < b → gt T' x = rotV T0 a m b x := by
  intro x h0 h1
  rw [hs x (by omega) (by omega)]
  by_cases c1 : m - i ≤ x ∧ x < m - i + i
  · rw [if_pos c1, h.left x c1.1 (by omega)]; congr 1; omega
  · rw [if_neg c1]
    by_cases c2 : m ≤ x ∧ x < m + i
    · rw [if_pos c2, h.right x (by omega) (by omega)]; congr 1; omega
    · rw [if_neg c2]; exact h.done x h0 h1 (by omega)

/-! ### one thing into a row behind it -/
def ShL (T T' : List TT) (a k : Int) : Prop := ∀ x : Int, 0 ≤ x → x < T.length → gt T' x = if a ≤ x ∧ x < k then gt T (x + 1) else if x = k then gt T a else gt T x
theorem shL_start {T : List TT} {a : Int} : ShL T T a a := fun x _ _ => by rw [if_neg (by omega)]; split <;> simp_all
theorem shL_step {T T' : List TT} {a k : Int} (h : ShL T T' a k) (hl : T'.length = T.length) (ha : 0 ≤ a) (hk : a ≤ k) (h1 : k + 1 < T.length) : ShL T (swT T' k (k + 1)) a (k + 1) := by
  intro x h0 hx
  have g0 := h k (by omega) (by omega)
  have g1 := h (k + 1) (by omega) (by omega)
  rw [if_neg (by omega), if_pos rfl] at g0
  rw [if_neg (by omega), if_neg (by omega)] at g1
  rw [swT_gt (by omega) (by omega) h0 (by omega), g0, g1]
  by_cases e1 : x = k + 1
  · rw [if_pos e1, if_neg (by omega), if_pos e1]
  · rw [if_neg e1]
    by_cases e2 : x = k
    · rw [if_pos e2, if_pos (by omega), e2]
    · rw [if_neg e2, h x h0 hx]
      by_cases c : a ≤ x ∧ x < k
      · rw [if_pos c, if_pos (by omega)]
      · rw [if_neg c, if_neg e2, if_neg (by omega), if_neg e1]
theorem shL_end {T T' : List TT} {a b i : Int} (h : ShL T T' a (i - 1)) (ha : 0 ≤ a) (hb : b ≤ T.length) (hs : Srt T (a + 1) b) (ht : Tg T a (a + 1) b) (hi : a + 1 ≤ i) (hi1 : i ≤ b)
    (h1 : i = a + 1 ∨ ltT (gt T (i - 1)).1 (gt T a).1) (h2 : i = b ∨ ¬ ltT (gt T i).1 (gt T a).1) : Srt T' a b := by
  have low : ∀ x, a + 1 ≤ x → x < i → LT' (gt T x) (gt T a) := by
    intro x hx hx1
    have hd := LT_lt (h1.resolve_left (by omega))
    by_cases e : x = i - 1
    · subst e; exact hd
    · exact LT_trans (hs x (i - 1) hx (by omega) (by omega)) hd
  have up : ∀ x, i ≤ x → x < b → LT' (gt T a) (gt T x) := by
    intro x hx hx1
    have hd : LT' (gt T a) (gt T i) := LT_of (h2.resolve_left (by omega)) (ht a i (by omega) (by omega) (by omega) (by omega))
    by_cases e : x = i
    · subst e; exact hd
    · exact LT_trans hd (hs i x (by omega) (by omega) hx1)
  intro x y h0 h3 h4
  rw [h x (by omega) (by omega), h y (by omega) (by omega)]
  by_cases c1 : a ≤ x ∧ x < i - 1
  · rw [if_pos c1]
    by_cases c2 : a ≤ y ∧ y < i - 1
    · rw [if_pos c2]; exact hs (x + 1) (y + 1) (by omega) (by omega) (by omega)
    · rw [if_neg c2]
      by_cases c3 : y = i - 1
      · rw [if_pos c3]; exact low (x + 1) (by omega) (by omega)
      · rw [if_neg c3]; exact hs (x + 1) y (by omega) (by omega) h4
  · rw [if_neg c1, if_neg (show ¬ (a ≤ y ∧ y < i - 1) by omega), if_neg (show ¬ y = i - 1 by omega)]
    by_cases c3 : x = i - 1
    · rw [if_pos c3]; exact up y (by omega) h4
    · rw [if_neg c3]; exact hs x y (by omega) h3 h4
def ShR (T T' : List TT) (m k : Int) : Prop := ∀ x : Int, 0 ≤ x → x < T.length → gt T' x = if x = k then gt T m else if k < x ∧ x ≤ m then gt T (x - 1) else gt T x
theorem shR_start {T : List TT} {m : Int} : ShR T T m m := fun x _ _ => by
  by_cases e : x = m
  · rw [if_pos e, e]
  · rw [if_neg e, if_neg (by omega)]
theorem shR_step {T T' : List TT} {m k : Int} (h : ShR T T' m k) (hl : T'.length = T.length) (hk : 0 < k) (hm : k ≤ m) (h1 : m < T.length) : ShR T (swT T' k (k - 1)) m (k - 1) := by
  intro x h0 hx
  have g0 := h k (by omega) (by omega)
  have g1 := h (k - 1) (by omega) (by omega)
  rw [if_pos rfl] at g0
  rw [if_neg (by omega), if_neg (by omega)] at g1
  rw [swT_gt (by omega) (by omega) h0 (by omega), g0, g1]
  by_cases e1 : x = k - 1
  · rw [if_pos e1, if_pos e1]
  · rw [if_neg e1, if_neg e1]
    by_cases e2 : x = k
    · rw [if_pos e2, if_pos (by omega), e2]
    · rw [if_neg e2, h x h0 hx, if_neg e2]
      by_cases c : k < x ∧ x ≤ m
      · rw [if_pos c, if_pos (by omega)]
      · rw [if_neg c, if_neg (by omega)]
theorem shR_end {T T' : List TT} {a m i : Int} (h : ShR T T' m i) (ha : 0 ≤ a) (hb : m < T.length) (hs : Srt T a m) (ht : Tg T a m (m + 1)) (hi : a ≤ i) (hi1 : i ≤ m)
    (h1 : i = a ∨ ¬ ltT (gt T m).1 (gt T (i - 1)).1) (h2 : i = m ∨ ltT (gt T m).1 (gt T i).1) : Srt T' a (m + 1) := by
  have low : ∀ x, a ≤ x → x < i → LT' (gt T x) (gt T m) := by
    intro x hx hx1
    have hd : LT' (gt T (i - 1)) (gt T m) := LT_of (h1.resolve_left (by omega)) (ht (i - 1) m (by omega) (by omega) (by omega) (by omega))
    by_cases e : x = i - 1
    · subst e; exact hd
    · exact LT_trans (hs x (i - 1) hx (by omega) (by omega)) hd
  have up : ∀ x, i ≤ x → x < m → LT' (gt T m) (gt T x) := by
    intro x hx hx1
    have hd := LT_lt (h2.resolve_left (by omega))
    by_cases e : x = i
    · subst e; exact hd
    · exact LT_trans hd (hs i x (by omega) (by omega) hx1)
  intro x y h0 h3 h4
  rw [h x (by omega) (by omega), h y (by omega) (by omega)]
  by_cases c1 : x = i
  · rw [if_pos c1, if_neg (show ¬ y = i by omega), if_pos (by omega)]; exact up (y - 1) (by omega) (by omega)
  · rw [if_neg c1]
    by_cases c2 : i < x ∧ x ≤ m
    · rw [if_pos c2, if_neg (show ¬ y = i by omega), if_pos (by omega)]; exact hs (x - 1) (y - 1) (by omega) (by omega) (by omega)
    · rw [if_neg c2]
      by_cases c3 : y = i
      · rw [if_pos c3]; exact low x h0 (by omega)
      · rw [if_neg c3]
        by_cases c4 : i < y ∧ y ≤ m
        · rw [if_pos c4]
          by_cases e : x < y - 1
          · exact hs x (y - 1) h0 e (by omega)
          · omega
        · rw [if_neg c4]; exact hs x y h0 h3 (by omega)

/-! ### two rows merged by halves -/
structure Halves (T1 : List TT) (a s mid e b : Int) : Prop where
  s1 : Srt T1 a s
  s2 : Srt T1 s mid
  s3 : Srt T1 mid e
  s4 : Srt T1 e b
  t1 : Tg T1 a s mid
  t2 : Tg T1 mid e b
  cross : ∀ u v, a ≤ u → u < mid → mid ≤ v → v < b → LT' (gt T1 u) (gt T1 v)
theorem halves_of {T T1 : List TT} {a m b s e mid lo hi : Int} (hin : ∀ x, s ≤ x → x < e → gt T1 x = rotV T s m e x) (hout : ∀ x, 0 ≤ x → (x < s ∨ e ≤ x) → gt T1 x = gt T x) (h0 : 0 ≤ a) (ham : a ≤ m) (hmb : m ≤ b)
    (hs1 : Srt T a m) (hs2 : Srt T m b) (ht : Tg T a m b) (he : e = mid + m - s) (has : a ≤ s) (hsm : s ≤ m) (hme : m ≤ e) (heb : e ≤ b)
    (hlo : lo = a ∨ lo = mid + m - b) (hhi : hi = m ∨ hi = mid) (hA : s = lo ∨ ¬ ltT (gt T e).1 (gt T (s - 1)).1) (hB : s = hi ∨ ltT (gt T (e - 1)).1 (gt T s).1) : Halves T1 a s mid e b := by
  have hmid1 : s ≤ mid := by omega
  have hmid2 : mid ≤ e := by omega
  have gA : ∀ x, a ≤ x → x < s → gt T1 x = gt T x := fun x h1 h2 => hout x (by omega) (.inl h2)
  have gB : ∀ x, s ≤ x → x < mid → gt T1 x = gt T (x - s + m) := fun x h1 h2 => by rw [hin x h1 (by omega)]; unfold rotV; rw [if_pos (by omega)]
  have gC : ∀ x, mid ≤ x → x < e → gt T1 x = gt T (x - (e - m)) := fun x h1 h2 => by rw [hin x (by omega) h2]; unfold rotV; rw [if_neg (by omega)]
  have gD : ∀ x, e ≤ x → x < b → gt T1 x = gt T x := fun x h1 h2 => hout x (by omega) (.inr h1)
  have le1 : ∀ x y, a ≤ x → x ≤ y → y < m → x = y ∨ LT' (gt T x) (gt T y) := fun x y h1 h2 h3 => by
    by_cases e : x = y
    · exact .inl e
    · exact .inr (hs1 x y h1 (by omega) h3)
  have le2 : ∀ x y, m ≤ x → x ≤ y → y < b → x = y ∨ LT' (gt T x) (gt T y) := fun x y h1 h2 h3 => by
    by_cases e : x = y
    · exact .inl e
    · exact .inr (hs2 x y h1 (by omega) h3)
  have ch : ∀ x y z t : Int, (x = y ∨ LT' (gt T x) (gt T y)) → LT' (gt T y) (gt T z) → (z = t ∨ LT' (gt T z) (gt T t)) → LT' (gt T x) (gt T t) := by
    intro x y z t h1 h2 h3
    rcases h1 with rfl | h1
    · rcases h3 with rfl | h3
      · exact h2
      · exact LT_trans h2 h3
    · rcases h3 with rfl | h3
      · exact LT_trans h1 h2
      · exact LT_trans h1 (LT_trans h2 h3)
  refine ⟨fun x y h1 h2 h3 => ?_, fun x y h1 h2 h3 => ?_, fun x y h1 h2 h3 => ?_, fun x y h1 h2 h3 => ?_, fun x y h1 h2 h3 h4 => ?_, fun x y h1 h2 h3 h4 => ?_, fun u v h1 h2 h3 h4 => ?_⟩
  · rw [gA x h1 (by omega), gA y (by omega) h3]; exact hs1 x y h1 h2 (by omega)
  · rw [gB x h1 (by omega), gB y (by omega) h3]; exact hs2 _ _ (by omega) (by omega) (by omega)
  · rw [gC x h1 (by omega), gC y (by omega) h3]; exact hs1 _ _ (by omega) (by omega) (by omega)
  · rw [gD x h1 (by omega), gD y (by omega) h3]; exact hs2 x y (by omega) h2 h3
  · rw [gA x h1 h2, gB y h3 h4]; exact ht _ _ (by omega) (by omega) (by omega) (by omega)
  · rw [gC x h1 h2, gD y h3 h4]; exact ht _ _ (by omega) (by omega) (by omega) (by omega)
  · by_cases c1 : u < s
    · rw [gA u h1 c1]
      by_cases c2 : v < e
      · rw [gC v h3 c2]; exact hs1 _ _ (by omega) (by omega) (by omega)
      · rw [gD v (by omega) h4]
        have hd : LT' (gt T (s - 1)) (gt T e) := LT_of (hA.resolve_left (by omega)) (ht _ _ (by omega) (by omega) (by omega) (by omega))
        exact ch u (s - 1) e v (le1 _ _ (by omega) (by omega) (by omega)) hd (le2 _ _ (by omega) (by omega) h4)
    · rw [gB u (by omega) h2]
      by_cases c2 : v < e
      · rw [gC v h3 c2]
        have hd := LT_lt (hB.resolve_left (by omega))
        exact ch _ (e - 1) s _ (le2 _ _ (by omega) (by omega) (by omega)) hd (le1 _ _ (by omega) (by omega) (by omega))
      · rw [gD v (by omega) h4]; exact hs2 _ _ (by omega) (by omega) (by omega)
theorem halves_end {T1 T2 T3 : List TT} {a s mid e b : Int} (h : Halves T1 a s mid e b) (h0 : 0 ≤ a) (hm1 : a ≤ mid) (hm2 : mid ≤ b) (m1 : Mv a mid T1 T2) (m2 : Mv mid b T2 T3) (s1 : Srt T2 a mid) (s2 : Srt T3 mid b) : Srt T3 a b := by
  intro x y h1 h2 h3
  by_cases c1 : y < mid
  · rw [m2.out x (by omega) (.inl (by omega)), m2.out y (by omega) (.inl c1)]; exact s1 x y h1 h2 c1
  · by_cases c2 : mid ≤ x
    · exact s2 x y c2 h2 h3
    · rw [m2.out x (by omega) (.inl (by omega))]
      obtain ⟨u, hu, hu1, e1⟩ := m1.ins x h1 (by omega)
      obtain ⟨v, hv, hv1, e2⟩ := m2.ins y (by omega) h3
      rw [e1, e2, m1.out v (by omega) (.inr hv)]
      exact h.cross u v hu hu1 hv hv1

/-! ### rows of blocks -/
theorem div_same {d a x : Int} (hd : 0 < d) (ha : a % d = 0) (h0 : a ≤ x) (h1 : x < a + d) : x / d = a / d := by
  have e := Int.emod_add_mul_ediv a d
  have e2 := Int.emod_add_mul_ediv x d
  have r := Int.emod_nonneg x (show d ≠ 0 by omega)
  have r2 := Int.emod_lt_of_pos x hd
  rw [ha] at e
  have l1 : d * (a / d) < d * (x / d + 1) := by rw [Int.mul_add]; omega
  have l2 : d * (x / d) < d * (a / d + 1) := by rw [Int.mul_add]; omega
  have := Int.lt_of_mul_lt_mul_left l1 (by omega)
  have := Int.lt_of_mul_lt_mul_left l2 (by omega)
  omega
theorem div_less {d a x : Int} (hd : 0 < d) (ha : a % d = 0) (h : x < a) : x / d < a / d := by
  have e := Int.emod_add_mul_ediv a d
  have e2 := Int.emod_add_mul_ediv x d
  have r := Int.emod_nonneg x (show d ≠ 0 by omega)
  rw [ha] at e
  have l1 : d * (x / d) < d * (a / d) := by omega
  exact Int.lt_of_mul_lt_mul_left l1 (by omega)
theorem div_more {d a x : Int} (hd : 0 < d) (ha : a % d = 0) (h : a + d ≤ x) : a / d < x / d := by
  have e := Int.emod_add_mul_ediv a d
  have e2 := Int.emod_add_mul_ediv x d
  have r2 := Int.emod_lt_of_pos x hd
  rw [ha] at e
  have l1 : d * (a / d) < d * (x / d) := by omega
  exact Int.lt_of_mul_lt_mul_left l1 (by omega)
/-- From lo on, below hi: each block of d in order, and its tags are its places. -/
structure Blk (d lo hi : Int) (T : List TT) : Prop where
  srt : ∀ x y, lo ≤ x → x < y → y < hi → x / d = y / d → LT' (gt T x) (gt T y)
  tag : ∀ x, lo ≤ x → x < hi → (gt T x).2 / d = x / d
/-- What stands nowhere in order yet: each tag its place. -/
def Fresh (T : List TT) (lo hi : Int) : Prop := ∀ x, lo ≤ x → x < hi → (gt T x).2 = x
theorem Fresh.tg {T : List TT} {lo hi : Int} (h : Fresh T lo hi) {a m b : Int} (ha : lo ≤ a) (hb : b ≤ hi) : Tg T a m b := fun i j h0 h1 h2 h3 => by rw [h i (by omega) (by omega), h j (by omega) (by omega)]; omega
theorem Fresh.out {T T' : List TT} {lo hi a b : Int} (h : Fresh T lo hi) (h0 : 0 ≤ lo) (hm : Mv a b T T') (hb : b ≤ lo ∨ hi ≤ a) : Fresh T' lo hi := fun x h1 h2 => by rw [hm.out x (by omega) (by omega)]; exact h x h1 h2
theorem blk_nil {d : Int} {T : List TT} : Blk d 0 0 T := ⟨fun x y h0 h1 h2 => by omega, fun x h0 h1 => by omega⟩
/-- One more block, put in order. -/
theorem blk_add {d a b : Int} {T T' : List TT} (hd : 0 < d) (h : Blk d 0 a T) (ha : a % d = 0) (h0 : 0 ≤ a) (hab : a ≤ b) (hb : b ≤ a + d) (hm : Mv a b T T') (hs : Srt T' a b) (ht : ∀ x, a ≤ x → x < b → (gt T x).2 / d = a / d) : Blk d 0 b T' := by
  refine ⟨fun x y h1 h2 h3 h4 => ?_, fun x h1 h2 => ?_⟩
  · by_cases c1 : y < a
    · rw [hm.out x h1 (.inl (by omega)), hm.out y (by omega) (.inl c1)]; exact h.srt x y h1 h2 c1 h4
    · by_cases c2 : a ≤ x
      · exact hs x y c2 h2 h3
      · have e1 := div_less hd ha (show x < a by omega)
        have e2 := div_same hd ha (show a ≤ y by omega) (by omega)
        omega
  · by_cases c1 : x < a
    · rw [hm.out x h1 (.inl c1)]; exact h.tag x h1 c1
    · obtain ⟨y, hy, hy1, e⟩ := hm.ins x (by omega) h2
      rw [e, ht y hy hy1, div_same hd ha (show a ≤ x by omega) (by omega)]
theorem Blk.mono {d lo hi lo' hi' : Int} {T : List TT} (h : Blk d lo hi T) (h0 : lo ≤ lo') (h1 : hi' ≤ hi) : Blk d lo' hi' T := ⟨fun x y a b c e => h.srt x y (by omega) b (by omega) e, fun x a b => h.tag x (by omega) (by omega)⟩
theorem Blk.out {d lo hi a b : Int} {T T' : List TT} (h : Blk d lo hi T) (h0 : 0 ≤ lo) (hm : Mv a b T T') (hb : b ≤ lo ∨ hi ≤ a) : Blk d lo hi T' :=
  ⟨fun x y h1 h2 h3 h4 => by rw [hm.out x (by omega) (by omega), hm.out y (by omega) (by omega)]; exact h.srt x y h1 h2 h3 h4, fun x h1 h2 => by rw [hm.out x (by omega) (by omega)]; exact h.tag x h1 h2⟩
theorem Blk.seg {d lo hi a b : Int} {T : List TT} (h : Blk d lo hi T) (hd : 0 < d) (ha : a % d = 0) (h0 : lo ≤ a) (hb : b ≤ a + d) (h1 : b ≤ hi) : Srt T a b := fun x y hx hy hz =>
  h.srt x y (by omega) hy (by omega) (by rw [div_same hd ha hx (by omega), div_same hd ha (show a ≤ y by omega) (by omega)])
theorem tag_in {d a t : Int} (hd : 0 < d) (ha : a % d = 0) (h : t / d = a / d) : a ≤ t ∧ t < a + d := by
  rcases Int.lt_or_le t a with h' | h'
  · have := div_less hd ha h'; omega
  · rcases Int.lt_or_le t (a + d) with h2 | h2
    · exact ⟨h', h2⟩
    · have := div_more hd ha h2; omega
/-- Two blocks beside each other: the tags of the first are less; and all lie in the two. -/
theorem Blk.pair {d hi a b : Int} {T : List TT} (h : Blk d a hi T) (hd : 0 < d) (ha : a % (2 * d) = 0) (hb : b ≤ a + 2 * d) (h1 : b ≤ hi) (hm : a + d ≤ b) :
    Tg T a (a + d) b ∧ (∀ x, a ≤ x → x < b → (gt T x).2 / (2 * d) = a / (2 * d)) ∧ a % d = 0 ∧ (a + d) % d = 0 := by
  have ha1 : a % d = 0 := by
    have := Int.emod_emod_of_dvd a (show d ∣ 2 * d from ⟨2, by rw [Int.mul_comm]⟩)
    rw [← this, ha]; simp
  have ha2 : (a + d) % d = 0 := by rw [Int.add_emod_right]; exact ha1
  have in1 : ∀ x, a ≤ x → x < a + d → a ≤ (gt T x).2 ∧ (gt T x).2 < a + d := fun x hx hx1 => tag_in hd ha1 (by rw [h.tag x hx (by omega), div_same hd ha1 hx hx1])
  have in2 : ∀ x, a + d ≤ x → x < b → a + d ≤ (gt T x).2 ∧ (gt T x).2 < a + d + d := fun x hx hx1 => tag_in hd ha2 (by rw [h.tag x (by omega) (by omega), div_same hd ha2 hx (by omega)])
  refine ⟨fun i j h2 h3 h4 h5 => ?_, fun x hx hx1 => ?_, ha1, ha2⟩
  · have := in1 i h2 h3
    have := in2 j h4 h5
    omega
  · refine div_same (by omega) ha ?_ ?_
    · by_cases c : x < a + d
      · have := in1 x hx c; omega
      · have := in2 x (by omega) hx1; omega
    · by_cases c : x < a + d
      · have := in1 x hx c; omega
      · have := in2 x (by omega) hx1; omega
/-- A last block that stands alone. -/
theorem Blk.alone {d hi a : Int} {T : List TT} (h : Blk d a hi T) (hd : 0 < d) (ha : a % (2 * d) = 0) (h1 : hi ≤ a + d) : Srt T a hi ∧ ∀ x, a ≤ x → x < hi → (gt T x).2 / (2 * d) = a / (2 * d) := by
  have ha1 : a % d = 0 := by
    have := Int.emod_emod_of_dvd a (show d ∣ 2 * d from ⟨2, by rw [Int.mul_comm]⟩)
    rw [← this, ha]; simp
  refine ⟨h.seg hd ha1 (by omega) h1 (by omega), fun x hx hx1 => ?_⟩
  have := tag_in hd ha1 (t := (gt T x).2) (by rw [h.tag x hx hx1, div_same hd ha1 hx (by omega)])
  exact div_same (by omega) ha (by omega) (by omega)
theorem Blk.whole {d n : Int} {T : List TT} (h : Blk d 0 n T) (hn : n ≤ d) (h0 : 0 < d) : Srt T 0 n := h.seg h0 (by simp) (by omega) (by omega) (by omega)

/-! ### words for the walks -/
theorem fdiv_two (x : Int) : x.fdiv (2 ^ min (1 : Int).toNat IntKind.u64.bits) = x / 2 := by
  have h : (2 : Int) ^ min (1 : Int).toNat IntKind.u64.bits = 2 := by decide
  rw [h, Int.fdiv_eq_ediv_of_nonneg _ (by omega)]
def cmpI (a b : Int) : Int := if a < b then -1 else if b < a then 1 else 0
def orL : List Int → Int
  | [] => 0
  | x :: L => if x ≠ 0 then x else orL L
def ordV (a b : Thing) : Int := orL [cmpI a.due b.due, cmpI a.id b.id]
theorem ord_lt {a b : Thing} : ordV a b < 0 ↔ ltT a b := by
  unfold ordV orL orL orL cmpI ltT
  split <;> split <;> (try split) <;> (try split) <;> omega
theorem or_step {L : List Int} {i : Int} (h0 : 0 ≤ i) (h1 : i < L.length) : orL (L.drop i.toNat) = if gt L i ≠ 0 then gt L i else orL (L.drop (i + 1).toNat) := by rw [drop_gt h0 h1]; rfl
def loV (a m b : Int) : Int := if (a + b) / 2 < m then (a + b) / 2 + m - b else a
def hiV (a m b : Int) : Int := if (a + b) / 2 < m then (a + b) / 2 else m
theorem lohi (a m b : Int) : ((a + b) / 2 < m ∧ loV a m b = (a + b) / 2 + m - b ∧ hiV a m b = (a + b) / 2) ∨ (m ≤ (a + b) / 2 ∧ loV a m b = a ∧ hiV a m b = m) := by
  unfold loV hiV
  by_cases h : (a + b) / 2 < m
  · rw [if_pos h, if_pos h]; exact .inl ⟨h, rfl, rfl⟩
  · rw [if_neg h, if_neg h]; exact .inr ⟨by omega, rfl, rfl⟩
theorem rotV_id {T : List TT} {s m e x : Int} (h : s = m ∨ m = e) (h0 : s ≤ x) (h1 : x < e) : gt T x = rotV T s m e x := by
  unfold rotV
  rcases h with h | h
  · rw [if_pos (by omega)]; congr 1; omega
  · rw [if_neg (by omega)]; congr 1; omega
theorem add_mod_self (a d : Int) (h : a % d = 0) : (a + d) % d = 0 := by rw [Int.add_emod_right]; exact h
end Go.Proofs.Ytblipnjjgbggiaa
