/- A wheel: how one lies in memory; a map that is gone through. Conditions: none. -/
import Derived.Test.YtblipnjjgbggiaaWheelQ
import Derived.Test.YtblipnjjgbggiaaRmap
namespace Go.Proofs.Ytblipnjjgbggiaa
open Go Go.RowKit
set_option linter.unusedVariables false
set_option linter.unusedSectionVars false
set_option linter.unusedSimpArgs false
/-! ### visited -/
section
variable {α : Type} {E V : List (Int × α × Nat)} {e : Int × α × Nat}
theorem sub_len : ∀ (A B : List Nat), A.Nodup → (∀ x, x ∈ A → x ∈ B) → A.length ≤ B.length
  | [], B, _, _ => Nat.zero_le _
  | a :: A, B, hn, hs => by
    rw [List.nodup_cons] at hn
    have ha := hs a (by simp)
    have hp := List.perm_cons_erase ha
    have ih := sub_len A (B.erase a) hn.2 fun x hx => by
      have hxa : x ≠ a := fun q => hn.1 (q ▸ hx)
      exact (List.mem_erase_of_ne hxa).mpr (hs x (by simp [hx]))
    have := hp.length_eq
    simp at this ⊢
    omega
structure Vis (E V : List (Int × α × Nat)) : Prop where
  sub : ∀ p, p ∈ V → p ∈ E
  nodup : (V.map (·.2.2)).Nodup
theorem Vis.nil : Vis E [] := ⟨fun p h => (by cases h), List.nodup_nil⟩
abbrev seenOf (V : List (Int × α × Nat)) : Array Nat := (V.map (·.2.2)).toArray
theorem seen_push : (seenOf V).push e.2.2 = seenOf (V ++ [e]) := by simp [seenOf]
theorem mem_seen {n : Nat} : n ∈ seenOf V ↔ n ∈ V.map (·.2.2) := by simp [seenOf]
theorem Vis.snoc (h : Vis E V) (he : e ∈ E) (hn : e.2.2 ∉ seenOf V) : Vis E (V ++ [e]) := by
  rw [mem_seen] at hn
  refine ⟨fun p hp => ?_, ?_⟩
  · rcases List.mem_append.mp hp with hp | hp
    · exact h.sub p hp
    · simp at hp; rw [hp]; exact he
  · rw [List.map_append, List.nodup_append]
    refine ⟨h.nodup, by simp, ?_⟩
    intro a ha b hb q
    simp at hb
    subst hb; subst q
    exact hn ha
theorem Vis.le (h : Vis E V) : V.length ≤ E.length := by
  have := sub_len (V.map (·.2.2)) (E.map (·.2.2)) h.nodup fun x hx => by
    obtain ⟨p, hp, rfl⟩ := List.mem_map.mp hx
    exact List.mem_map.mpr ⟨p, h.sub p hp, rfl⟩
  simpa using this
theorem Vis.lt (h : Vis E V) (he : e ∈ E) (hn : e.2.2 ∉ seenOf V) : V.length < E.length := by
  have := (h.snoc he hn).le
  simp at this; omega
theorem born_inj (hb : (E.map (·.2.2)).Nodup) {p q : Int × α × Nat} (hp : p ∈ E) (hq : q ∈ E) (h : p.2.2 = q.2.2) : p = q := by
  induction E with
  | nil => cases hp
  | cons a E ih =>
    rw [List.map_cons, List.nodup_cons] at hb
    rcases List.mem_cons.mp hp with h1 | h1
    · rcases List.mem_cons.mp hq with h2 | h2
      · rw [h1, h2]
      · exact absurd (List.mem_map.mpr ⟨q, h2, by rw [← h, h1]⟩) hb.1
    · rcases List.mem_cons.mp hq with h2 | h2
      · exact absurd (List.mem_map.mpr ⟨p, h1, by rw [h, h2]⟩) hb.1
      · exact ih hb.2 h1 h2
theorem Vis.seen (h : Vis E V) (hb : (E.map (·.2.2)).Nodup) (he : e ∈ E) : e.2.2 ∈ seenOf V ↔ e ∈ V := by
  rw [mem_seen]
  constructor
  · intro hm
    obtain ⟨p, hp, q⟩ := List.mem_map.mp hm
    rw [← born_inj hb (h.sub p hp) he q]; exact hp
  · intro hm; exact List.mem_map.mpr ⟨e, hm, rfl⟩
end
/-! ### what is beyond the rings -/
structure FarE (Fv : List Thing) (E : List (Int × Thing × Nat)) (ck : Nat) : Prop where
  vals : E.map (·.2.1) = Fv
  key : ∀ e, e ∈ E → e.1 = e.2.1.id
  born : (E.map (·.2.2)).Nodup
  old : ∀ e, e ∈ E → e.2.2 < ck
section
variable {Fv : List Thing} {E : List (Int × Thing × Nat)} {ck : Nat} {id : Int} {t : Thing}
theorem FarE.nil : FarE [] [] 0 := ⟨rfl, fun e h => (by cases h), List.nodup_nil, fun e h => (by cases h)⟩
theorem FarE.len (h : FarE Fv E ck) : E.length = Fv.length := by rw [← h.vals]; simp
theorem FarE.find (h : FarE Fv E ck) (id : Int) : mfind id E = findT id Fv := by
  have hk := h.key
  rw [← h.vals]
  clear h
  unfold mfind findT
  induction E with
  | nil => rfl
  | cons e E ih =>
    have ih := ih fun e he => hk e (by simp [he])
    have h1 := hk e (by simp)
    by_cases q : id = e.1
    · rw [List.find?_cons_of_pos (by simpa using q), List.map_cons, List.find?_cons_of_pos (by rw [← h1]; simpa using q)]; rfl
    · rw [List.find?_cons_of_neg (by simpa using q), List.map_cons, List.find?_cons_of_neg (by rw [← h1]; simpa using q)]; exact ih
theorem FarE.put (h : FarE Fv E ck) (t : Thing) : FarE (Fv ++ [t]) (E ++ [(t.id, t, ck)]) (ck + 1) := by
  refine ⟨by rw [List.map_append, h.vals]; rfl, fun e he => ?_, ?_, fun e he => ?_⟩
  · rcases List.mem_append.mp he with he | he
    · exact h.key e he
    · simp at he; subst he; rfl
  · rw [List.map_append, List.nodup_append]
    refine ⟨h.born, by simp, ?_⟩
    intro a ha b hb q
    simp at hb
    subst hb; subst q
    obtain ⟨p, hp, q⟩ := List.mem_map.mp ha
    have := h.old p hp
    omega
  · rcases List.mem_append.mp he with he | he
    · have := h.old e he; omega
    · simp at he; subst he; simp
theorem FarE.del (h : FarE Fv E ck) (id : Int) : FarE (dropT id Fv) (mdel id E) ck := by
  refine ⟨?_, fun e he => h.key e (mdel_sub.subset he), List.Nodup.sublist (List.Sublist.map _ mdel_sub) h.born, fun e he => h.old e (mdel_sub.subset he)⟩
  have hk := h.key
  rw [← h.vals]
  clear h
  unfold dropT
  induction E with
  | nil => rfl
  | cons e E ih =>
    have ih := ih fun e he => hk e (by simp [he])
    have h1 := hk e (by simp)
    unfold mdel
    by_cases q : id = e.1
    · rw [if_pos q, List.map_cons, List.eraseP_cons_of_pos (by rw [← h1]; simpa using q)]
    · rw [if_neg q, List.map_cons, List.map_cons, List.eraseP_cons_of_neg (by rw [← h1]; simpa using q), ih]
theorem FarE.keys (h : FarE Fv E ck) (hi : Ids Fv) : (E.map (·.1)).Nodup := by
  have e : E.map (·.1) = Fv.map (·.id) := by
    rw [← h.vals, List.map_map]
    exact List.map_congr_left fun e he => h.key e he
  rw [e]; exact hi
theorem FarE.mem (h : FarE Fv E ck) : t ∈ Fv ↔ ∃ e, e ∈ E ∧ e.2.1 = t := by rw [← h.vals, List.mem_map]
theorem mem_mdel {k : Int} {p : Int × Thing × Nat} (hk : (E.map (·.1)).Nodup) : p ∈ mdel k E ↔ p ∈ E ∧ p.1 ≠ k := by
  induction E with
  | nil => simp [mdel]
  | cons a E ih =>
    rw [List.map_cons, List.nodup_cons] at hk
    have ih := ih hk.2
    unfold mdel
    by_cases ha : k = a.1
    · rw [if_pos ha, List.mem_cons]
      constructor
      · intro hp; exact ⟨.inr hp, fun q => hk.1 (List.mem_map.mpr ⟨p, hp, by rw [q, ha]⟩)⟩
      · rintro ⟨hp | hp, hne⟩
        · exact absurd (by rw [hp, ha]) hne
        · exact hp
    · rw [if_neg ha, List.mem_cons, List.mem_cons, ih]
      constructor
      · rintro (hp | ⟨hp, hne⟩)
        · exact ⟨.inl hp, by rw [hp]; exact fun q => ha q.symm⟩
        · exact ⟨.inr hp, hne⟩
      · rintro ⟨hp | hp, hne⟩
        · exact .inl hp
        · exact .inr ⟨hp, hne⟩
end
/-! ### numbers -/
theorem fdiv_pow (x : Int) (n : Nat) : x.fdiv (2 ^ n) = x / 2 ^ n := Int.fdiv_eq_ediv_of_nonneg x (Int.le_of_lt (Int.pow_pos (by decide)))
theorem shr6 (x : Int) {i : Int} (h0 : 0 ≤ i) (h1 : i ≤ 4) : x.fdiv (2 ^ min (6 * i).toNat IntKind.i64.bits) = shI x i := by
  rw [fdiv_pow]
  rcases (show i = 0 ∨ i = 1 ∨ i = 2 ∨ i = 3 ∨ i = 4 by omega) with rfl | rfl | rfl | rfl | rfl
  · show x / 1 = _; rw [Int.ediv_one]; rfl
  · rfl
  · rfl
  · rfl
  · rfl
theorem andI63 (f : Int) : IntKind.i64.wrap (BitVec.ofInt 64 f &&& BitVec.ofInt 64 63).toNat = f % 64 := by
  have h : (BitVec.ofInt 64 f &&& BitVec.ofInt 64 63).toNat = (f % 64).toNat := by
    rw [BitVec.toNat_and, BitVec.toNat_ofInt, BitVec.toNat_ofInt, show ((63 : Int) % ((2 ^ 64 : Nat) : Int)).toNat = 2 ^ 6 - 1 from rfl, Nat.and_two_pow_sub_one_eq_mod]
    omega
  rw [h]
  exact (w64 (by omega)).trans (by omega)
/-! ### in memory -/
def encTh (t : Thing) : Value := .agg #[.int .u64 t.id, .int .u64 t.gen, .int .i64 t.due]
abbrev ptrN (b : Nat) : Value := .pointer (some ⟨b, 0, none⟩)
def cellsW (now : Int) (ds : List Nat) (f : Nat) : List Value := .int .i64 now :: (ds.map ptrN ++ [ptrN f])
abbrev mapT (m : Nat) (E : List (Int × Thing × Nat)) (ck : Nat) : Res := mapR m .u64 encTh E ck
def wheelL (TW TF : TypeId) (d f m : Nat) (now : Int) (ds : List Nat) (E : List (Int × Thing × Nat)) (ck : Nat) (Ls : List (List Res)) : List Res := blk d TW (cellsW now ds f) :: blk f TF [.map (some m)] :: mapT m E ck :: Ls.map pack
def Rings (TR TE : TypeId) (ds : List Nat) (Rs : List (List RThing)) (Ls : List (List Res)) : Prop := ds.length = 4 ∧ Ls.length = 4 ∧ ∀ i : Int, 0 ≤ i → i < 4 → RingL TR TE (gt ds i) (gt Rs i) (gt Ls i)
/-- A wheel at d with just these rings, and these beyond; L is its memory. -/
def WheelM (TW TF TR TE : TypeId) (d : Nat) (now : Int) (Rs : List (List RThing)) (Fv : List Thing) (L : List Res) : Prop := ∃ f m ds E ck Ls, Rings TR TE ds Rs Ls ∧ FarE Fv E ck ∧ L = wheelL TW TF d f m now ds E ck Ls
/-- The same; its rings lie at ds, what is beyond at f. -/
def WheelD (TW TF TR TE : TypeId) (d : Nat) (ds : List Nat) (f : Nat) (now : Int) (Rs : List (List RThing)) (Fv : List Thing) (L : List Res) : Prop := ∃ m E ck Ls, Rings TR TE ds Rs Ls ∧ FarE Fv E ck ∧ L = wheelL TW TF d f m now ds E ck Ls
theorem WheelD.any {TW TF TR TE : TypeId} {d f : Nat} {ds : List Nat} {now : Int} {Rs : List (List RThing)} {Fv : List Thing} {L : List Res} (h : WheelD TW TF TR TE d ds f now Rs Fv L) : WheelM TW TF TR TE d now Rs Fv L := by
  obtain ⟨m, E, ck, Ls, h1, h2, h3⟩ := h
  exact ⟨f, m, ds, E, ck, Ls, h1, h2, h3⟩
/-- A wheel at d in which just X waits. -/
def WheelX (TW TF TR TE : TypeId) (d : Nat) (now : Int) (X : List Thing) (L : List Res) : Prop := ∃ Rs Fv, WRel now X Rs Fv ∧ WheelM TW TF TR TE d now Rs Fv L
section
variable {now : Int} {ds : List Nat} {f : Nat} {i : Int} {TR TE : TypeId} {Rs : List (List RThing)} {Ls : List (List Res)}
theorem cellsW_ring (hd : ds.length = 4) (h0 : 0 ≤ i) (h1 : i < 4) : (cellsW now ds f)[1 + i.toNat]? = some (ptrN (gt ds i)) := by
  unfold cellsW
  rw [show 1 + i.toNat = i.toNat + 1 by omega, List.getElem?_cons_succ, List.getElem?_append_left (by simp; omega), List.getElem?_map, gt_get h0 (by omega)]; rfl
theorem cellsW_far (hd : ds.length = 4) : (cellsW now ds f)[5]? = some (ptrN f) := by
  unfold cellsW
  rw [List.getElem?_cons_succ, List.getElem?_append_right (by simp; omega)]; simp [hd]
theorem cellsW_arr (hd : ds.length = 4) : ((cellsW now ds f).drop 1).take (ds.map ptrN).length = ds.map ptrN := by
  unfold cellsW
  simp
theorem cellsW_len (hd : ds.length = 4) : (cellsW now ds f).length = 6 := by simp [cellsW, hd]
theorem cellsW_set (now' : Int) : (cellsW now ds f).set 0 (.int .i64 now') = cellsW now' ds f := rfl
theorem arr_at (hd : ds.length = 4) (h0 : 0 ≤ i) (h1 : i < 4) : (ds.map ptrN)[i.toNat]? = some (ptrN (gt ds i)) := by
  rw [List.getElem?_map, gt_get h0 (by omega)]; rfl
theorem arr_len (hd : ds.length = 4) : 4 = (ds.map ptrN).length := by simp [hd]
theorem adr_ring (d k : Nat) : ((⟨d, 0, none⟩ : Addr).add 1).add (k * 1) = ⟨d, 1 + k, none⟩ := by simp [add_lit]
theorem Rings.set (h : Rings TR TE ds Rs Ls) (h0 : 0 ≤ i) (h1 : i < 4) (hl : Rs.length = 4) {W : List RThing} {L : List Res} (hL : RingL TR TE (gt ds i) W L) : Rings TR TE ds (Rs.set i.toNat W) (Ls.set i.toNat L) := by
  refine ⟨h.1, by simpa using h.2.1, fun j j0 j1 => ?_⟩
  rw [gt_setI j0 (by omega) h0, gt_setI j0 (by rw [h.2.1]; omega) h0]
  split
  · rename_i e; subst e; exact hL
  · exact h.2.2 j j0 j1
end
/-! ### what the calls tell -/
def tOr (o : Option Thing) : Thing := o.getD ⟨0, 0, 0⟩
def spC (Rs : List (List RThing)) (i : Int) : List Value := [.int .i64 (if 0 < i then (gt Rs 0).length else 0), .int .i64 (if 1 < i then (gt Rs 1).length else 0), .int .i64 (if 2 < i then (gt Rs 2).length else 0), .int .i64 (if 3 < i then (gt Rs 3).length else 0), .int .i64 0]
theorem spC_set {Rs : List (List RThing)} {i : Int} (h0 : 0 ≤ i) (h1 : i < 4) : (spC Rs i).set i.toNat (.int .i64 (gt Rs i).length) = spC Rs (i + 1) := by
  rcases four h0 h1 with rfl | rfl | rfl | rfl <;> rfl
def spreadA (now : Int) (X : List Thing) : List Int := [(cntX now X 0 : Nat), (cntX now X 1 : Nat), (cntX now X 2 : Nat), (cntX now X 3 : Nat), (cntX now X 4 : Nat)]
def lenTo (now : Int) (X : List Thing) (i : Int) : Int := if i ≤ 0 then 0 else if i = 1 then cntX now X 0 else if i = 2 then cntX now X 0 + cntX now X 1 else if i = 3 then cntX now X 0 + cntX now X 1 + cntX now X 2 else if i = 4 then cntX now X 0 + cntX now X 1 + cntX now X 2 + cntX now X 3 else X.length
theorem lenTo_step {now : Int} {X : List Thing} {i : Int} (h0 : 0 ≤ i) (h1 : i < 5) : lenTo now X (i + 1) = lenTo now X i + gt (spreadA now X) i := by
  have := cnt_sum now X
  rcases (show i = 0 ∨ i = 1 ∨ i = 2 ∨ i = 3 ∨ i = 4 by omega) with rfl | rfl | rfl | rfl | rfl <;> simp [lenTo, spreadA, gt] <;> omega
theorem lenTo_le {now : Int} {X : List Thing} {i : Int} : 0 ≤ lenTo now X i ∧ lenTo now X i ≤ X.length := by
  have := cnt_sum now X
  unfold lenTo
  repeat' split
  all_goals omega
theorem spread_at {now : Int} {X : List Thing} {i : Int} (h0 : 0 ≤ i) (h1 : i < 5) : ((spreadA now X).map fun n : Int => Value.int .i64 n)[i.toNat]? = some (.int .i64 (gt (spreadA now X) i)) := by
  rw [List.getElem?_map, gt_get h0 (by show i < 5; exact h1)]; rfl
theorem spread_rng {now : Int} {X : List Thing} {i : Int} (h0 : 0 ≤ i) (h1 : i < 5) : 0 ≤ gt (spreadA now X) i ∧ gt (spreadA now X) i ≤ X.length := by
  have := cnt_sum now X
  rcases (show i = 0 ∨ i = 1 ∨ i = 2 ∨ i = 3 ∨ i = 4 by omega) with rfl | rfl | rfl | rfl | rfl <;> simp [spreadA, gt] <;> omega
def armV (X : List Thing) (t : Thing) : List Thing × Int := if ¬ (0 ≤ t.due ∧ t.due ≤ 1125899906842624) then (X, 2) else if (findT t.id X).isSome then (X, 32) else if 256 ≤ X.length then (X, 30) else (X ++ [t], 0)
def newW (now : Int) (ds : List Nat) (f : Nat) : List Value := .int .i64 now :: ((ds.map ptrN ++ List.replicate (4 - ds.length) (.pointer none)) ++ [ptrN f])
theorem newW_set {now : Int} {ds : List Nat} {f b : Nat} {i : Int} (h0 : 0 ≤ i) (h1 : i < 4) (hl : ds.length = i.toNat) : (newW now ds f).set (1 + i.toNat) (ptrN b) = newW now (ds ++ [b]) f := by
  unfold newW
  rw [show 1 + i.toNat = i.toNat + 1 by omega, List.set_cons_succ, List.set_append_left _ _ (by simp; omega), List.set_append_right _ _ (by simp; omega)]
  congr 2
  rw [List.map_append, List.append_assoc]
  congr 1
  have e : 4 - ds.length = (4 - (ds ++ [b]).length) + 1 := by simp; omega
  rw [e, List.replicate_succ]
  simp [hl]
theorem newW_len {now : Int} {ds : List Nat} {f : Nat} (h : ds.length ≤ 4) : (newW now ds f).length = 6 := by simp [newW]; omega
theorem newW_all {now : Int} {ds : List Nat} {f : Nat} (h : ds.length = 4) : newW now ds f = cellsW now ds f := by simp [newW, cellsW, h]
end Go.Proofs.Ytblipnjjgbggiaa
