/- A ring of slots: how one lies in memory. Conditions: none. -/
import Derived.Test.YtblipnjjgbggiaaRingP
import Derived.Test.YtblipnjjgbggiaaRop
import Derived.Test.YtblipnjjgbggiaaSp
namespace Go.Proofs.Ytblipnjjgbggiaa
open Go Go.RowKit
set_option linter.unusedVariables false
set_option linter.unusedSectionVars false
set_option linter.unusedSimpArgs false
/-! ### resources in one -/
def pack (L : List Res) : Res :=
  ⟨footAll L, fun w => Own L w, fun w w' h hw => ⟨fun r hr => r.loc w w' (fun b hb => h b ⟨r, hr, hb⟩) (hw.1 r hr), hw.2⟩, fun w b hw ⟨r, hr, hb⟩ => r.inside w b (hw.1 r hr) hb⟩
section
variable {w w' w0 : World} {F : Nat → Prop} {rs L L' : List Res}
theorem SH.unpack (H : SH w0 F (pack L :: rs) w) : SH w0 F (L ++ rs) w := by
  have h := H.get0
  have hp := List.pairwise_cons.mp H.disj
  refine ⟨H.os, H.tape, H.output, H.size, H.keep, fun r hr => ?_, fun r hr b hb => ?_, List.pairwise_append.mpr ⟨h.2, hp.2, fun r hr s hs b hb hb' => hp.1 s hs b ⟨r, hr, hb⟩ hb'⟩⟩
  · rcases List.mem_append.mp hr with hr | hr
    · exact h.1 r hr
    · exact H.hold r (by simp [hr])
  · rcases List.mem_append.mp hr with hr | hr
    · exact H.own (pack L) (by simp) b ⟨r, hr, hb⟩
    · exact H.own r (by simp [hr]) b hb
theorem SH.packUp (H : SH w0 F (L ++ rs) w) : SH w0 F (pack L :: rs) w := by
  have hp := List.pairwise_append.mp H.disj
  refine ⟨H.os, H.tape, H.output, H.size, H.keep, fun r hr => ?_, fun r hr b hb => ?_, List.pairwise_cons.mpr ⟨fun s hs b ⟨r, hr, hb⟩ hb' => hp.2.2 r hr s hs b hb hb', hp.2.1⟩⟩
  · rcases List.mem_cons.mp hr with hr | hr
    · subst hr; exact ⟨fun s hs => H.hold s (by simp [hs]), hp.1⟩
    · exact H.hold r (by simp [hr])
  · rcases List.mem_cons.mp hr with hr | hr
    · subst hr
      obtain ⟨s, hs, hb⟩ := hb
      exact H.own s (by simp [hs]) b hb
    · exact H.own r (by simp [hr]) b hb
theorem pack_held (H : SH w0 F L w) : (pack L).holds w := ⟨H.hold, H.disj⟩
theorem SH.pack1 (H : SH w0 F L w) : SH w0 F [pack L] w := SH.packUp (rs := []) (by rwa [List.append_nil])
theorem SH.unpack1 (H : SH w0 F [pack L] w) : SH w0 F L w := by have := SH.unpack (rs := []) H; rwa [List.append_nil] at this
end
/-! ### a ring's memory -/
/-- A slot: where its things lie, how many may, and they. -/
abbrev Slot := Option Addr × Nat × List Thing
def vecZ (TE : TypeId) (z : Slot) : Res := vec z.1 z.2.1 TE 3 encThing z.2.2
def cellZ (z : Slot) : Value := .slice z.1 z.2.2.length z.2.1
def cellsR (Z : List Slot) (u : Int) (m : Nat) : List Value := Z.map cellZ ++ [.int .u64 u, .map (some m)]
abbrev mapS (m : Nat) (E : List (Int × Int × Nat)) (ck : Nat) : Res := mapR m .u64 (fun s : Int => .int .i64 s) E ck
def ringL (TR TE : TypeId) (d m : Nat) (Z : List Slot) (u : Int) (E : List (Int × Int × Nat)) (ck : Nat) : List Res := blk d TR (cellsR Z u m) :: mapS m E ck :: Z.map (vecZ TE)
section
variable {Z : List Slot} {u : Int} {m : Nat} {k : Int} {TE : TypeId}
theorem cellsR_len : (cellsR Z u m).length = Z.length + 2 := by simp [cellsR]
theorem cellsR_slot (h0 : 0 ≤ k) (h1 : k < Z.length) : (cellsR Z u m)[k.toNat]? = some (cellZ (gt Z k)) := by
  unfold cellsR
  rw [List.getElem?_append_left (by simp; omega), List.getElem?_map, gt_get h0 h1]; rfl
theorem cellsR_used (hZ : Z.length = 64) : (cellsR Z u m)[64]? = some (.int .u64 u) := by
  unfold cellsR
  rw [List.getElem?_append_right (by simp; omega)]; simp [hZ]
theorem cellsR_map (hZ : Z.length = 64) : (cellsR Z u m)[65]? = some (.map (some m)) := by
  unfold cellsR
  rw [List.getElem?_append_right (by simp; omega)]; simp [hZ]
theorem cellsR_setSlot (z : Slot) (h0 : 0 ≤ k) (h1 : k < Z.length) : (cellsR Z u m).set k.toNat (cellZ z) = cellsR (Z.set k.toNat z) u m := by
  unfold cellsR
  rw [List.set_append_left _ _ (by simp; omega), List.map_set]
theorem cellsR_setUsed (u' : Int) (hZ : Z.length = 64) : (cellsR Z u m).set 64 (.int .u64 u') = cellsR Z u' m := by
  unfold cellsR
  rw [List.set_append_right _ _ (by simp; omega)]; simp [hZ]
variable {w w' w0 : World} {F : Nat → Prop}
theorem SH.slotGet (pre : List Res) (H : SH w0 F (pre ++ Z.map (vecZ TE)) w) (h0 : 0 ≤ k) (h1 : k < Z.length) : (vecZ TE (gt Z k)).holds w :=
  H.hold _ (List.mem_append_right _ (List.mem_map.mpr ⟨gt Z k, gt_mem h0 h1, rfl⟩))
theorem split_at {α : Type} [Inhabited α] {L : List α} (h0 : 0 ≤ k) (h1 : k < L.length) : L = L.take k.toNat ++ gt L k :: L.drop (k.toNat + 1) := by
  have := (List.take_append_drop k.toNat L).symm
  rw [drop_gt h0 h1, show (k + 1).toNat = k.toNat + 1 by omega] at this
  exact this
theorem set_at {α : Type} [Inhabited α] {L : List α} (z : α) (h0 : 0 ≤ k) (h1 : k < L.length) : L.set k.toNat z = L.take k.toNat ++ z :: L.drop (k.toNat + 1) := by
  conv => lhs; rw [split_at (L := L) h0 h1]
  rw [List.set_append_right _ _ (by simp; omega), List.length_take, Nat.min_eq_left (by omega), Nat.sub_self]
  rfl
theorem SH.slotUpd (pre : List Res) (z : Slot) (H : SH w0 F (pre ++ Z.map (vecZ TE)) w) (h0 : 0 ≤ k) (h1 : k < Z.length) (U : Upd w (vecZ TE (gt Z k)) (vecZ TE z) w') : SH w0 F (pre ++ (Z.set k.toNat z).map (vecZ TE)) w' := by
  have e1 : pre ++ Z.map (vecZ TE) = (pre ++ (Z.take k.toNat).map (vecZ TE)) ++ vecZ TE (gt Z k) :: (Z.drop (k.toNat + 1)).map (vecZ TE) := by
    conv => lhs; rw [split_at (L := Z) h0 h1]
    simp
  have e2 : pre ++ (Z.set k.toNat z).map (vecZ TE) = (pre ++ (Z.take k.toNat).map (vecZ TE)) ++ vecZ TE z :: (Z.drop (k.toNat + 1)).map (vecZ TE) := by
    rw [set_at z h0 h1]; simp
  rw [e1] at H
  rw [e2]
  exact H.upd _ U
end
theorem SH.slotNew {Z : List Slot} {k : Int} {TE : TypeId} {w w0 : World} {F : Nat → Prop} (pre : List Res) (z : Slot) (H : SH w0 F (vecZ TE z :: (pre ++ Z.map (vecZ TE))) w) (h0 : 0 ≤ k) (h1 : k < Z.length) : SH w0 F (pre ++ (Z.set k.toNat z).map (vecZ TE)) w := by
  have e1 : Z.map (vecZ TE) = (Z.take k.toNat).map (vecZ TE) ++ vecZ TE (gt Z k) :: (Z.drop (k.toNat + 1)).map (vecZ TE) := by
    conv => lhs; rw [split_at (L := Z) h0 h1]
    simp
  have e2 : pre ++ (Z.set k.toNat z).map (vecZ TE) = (pre ++ (Z.take k.toNat).map (vecZ TE)) ++ vecZ TE z :: (Z.drop (k.toNat + 1)).map (vecZ TE) := by
    rw [set_at z h0 h1]; simp
  rw [e1] at H
  rw [e2]
  have H : SH w0 F ((vecZ TE z :: (pre ++ (Z.take k.toNat).map (vecZ TE))) ++ vecZ TE (gt Z k) :: (Z.drop (k.toNat + 1)).map (vecZ TE)) w := by simpa using H
  have H := SH.drop _ H
  exact H.perm List.perm_middle.symm
theorem rd_take {α : Type} {enc : α → List Value} {w : World} {A : Option Addr} {sz c : Nat} {L : List α} (h : Rd w A sz (L.map enc)) (hn : L.length ≤ c) (j : Nat) : Rd w (if c = 0 then A else A.map (·.add (0 * sz))) sz ((L.take j).map enc) := by
  rw [sub_zero_, List.map_take]; exact h.take_
theorem rd_drop {α : Type} {enc : α → List Value} {w : World} {A : Option Addr} {sz c : Nat} {L : List α} (h : Rd w A sz (L.map enc)) (hn : L.length ≤ c) (k : Nat) : Rd w (if c = k then A else A.map (·.add (k * sz))) sz ((L.drop k).map enc) := by
  rw [List.map_drop]; exact Rd.drop_ (n := 0) h (by simpa using hn)
theorem drop_copy {α : Type} {O L1 : List α} {x : α} {i : Int} (h0 : 0 ≤ i) (h1 : i < O.length) (h : List.take 0 (List.replicate ((O.length : Int) - 1).toNat x) ++ O.take i.toNat ++ List.drop (0 + (O.take i.toNat).length) (List.replicate ((O.length : Int) - 1).toNat x) = L1) :
    L1.length = ((O.length : Int) - 1).toNat ∧ L1.take i.toNat ++ O.drop (i + 1).toNat ++ L1.drop (i.toNat + (O.drop (i + 1).toNat).length) = O.take i.toNat ++ O.drop (i + 1).toNat := by
  obtain ⟨j, rfl⟩ := Int.eq_ofNat_of_zero_le h0
  have e1 : ((j : Int) + 1).toNat = j + 1 := by omega
  have e2 : ((O.length : Int) - 1).toNat = O.length - 1 := by omega
  have hj : j < O.length := by omega
  simp only [Int.toNat_natCast, e1, e2] at h ⊢
  have hl : L1.length = O.length - 1 := by
    rw [← h]
    simp only [List.length_append, List.length_take, List.length_drop, List.length_replicate]; omega
  refine ⟨hl, ?_⟩
  have h3 : L1.drop (j + (O.drop (j + 1)).length) = [] := List.drop_eq_nil_of_le (by rw [hl, List.length_drop]; omega)
  have h4 : L1.take j = O.take j := by rw [← h, List.take_zero, List.nil_append, List.take_append_of_le_length (by rw [List.length_take]; omega), List.take_of_length_le (by rw [List.length_take]; omega)]
  rw [h3, h4, List.append_nil]
/-! ### what a ring's memory tells of the list -/
structure Rel (W : List RThing) (Z : List Slot) (u : Int) (E : List (Int × Int × Nat)) : Prop where
  wf : Wf W
  len : Z.length = 64
  slots : ∀ k : Int, 0 ≤ k → k ≤ 63 → (gt Z k).2.2 = slotL W k
  used : u = (usedN W : Int)
  find : ∀ id, mfind id E = (findR id W).map (·.slot)
  keys : (E.map (·.1)).Nodup
/-- A ring at d in which just W waits; L is its memory. -/
def RingL (TR TE : TypeId) (d : Nat) (W : List RThing) (L : List Res) : Prop := ∃ m Z u E ck, Rel W Z u E ∧ L = ringL TR TE d m Z u E ck
section
variable {W : List RThing} {Z : List Slot} {u : Int} {E : List (Int × Int × Nat)} {k s id : Int} {t : Thing} {r : RThing}
theorem Rel.many (R : Rel W Z u E) : E.length = W.length := many_eq R.wf R.keys fun id => by rw [R.find]; simp
theorem wf_nil : Wf [] := ⟨by simp, fun r h => by cases h⟩
theorem gt_rep {α : Type} [Inhabited α] {n : Nat} {x : α} (h0 : 0 ≤ k) (h1 : k < n) : gt (List.replicate n x) k = x := by
  rw [gt_eq h0 (by simp; omega)]; simp
theorem Rel.start : Rel [] (List.replicate 64 ((none, 0, []) : Slot)) 0 [] := by
  refine ⟨wf_nil, by simp, fun k h0 h1 => ?_, rfl, fun id => rfl, by simp⟩
  rw [gt_rep h0 (by omega)]; rfl
theorem gt_setI {α : Type} [Inhabited α] {L : List α} {i j : Int} {x : α} (h0 : 0 ≤ i) (h1 : i < L.length) (j0 : 0 ≤ j) : gt (L.set j.toNat x) i = if i = j then x else gt L i := by
  by_cases h : i = j
  · subst h
    rw [if_pos rfl, gt_eq h0 (by simpa using h1)]; simp
  · rw [if_neg h, gt_set_ne h0 h1 j0 h]
theorem Rel.put (R : Rel W Z u E) (hn : findR t.id W = none) (h0 : 0 ≤ s) (h1 : s ≤ 63) (A : Option Addr) (c ck : Nat) : Rel (W ++ [toR t s]) (Z.set s.toNat (A, c, (gt Z s).2.2 ++ [t])) ((usedN W ||| 2 ^ s.toNat : Nat) : Int) (E ++ [(t.id, s, ck)]) := by
  have hf : mfind t.id E = none := by rw [R.find, hn]; rfl
  refine ⟨R.wf.put hn h0 h1, by simpa using R.len, fun k k0 k1 => ?_, by rw [usedN_put], fun id => ?_, keys_app R.keys hf⟩
  · rw [gt_setI k0 (by rw [R.len]; omega) h0, slotL_app, slotL_one]
    by_cases h : k = s
    · subst h; rw [if_pos rfl, if_pos rfl, R.slots _ k0 k1]
    · rw [if_neg h, if_neg (fun e => h e.symm), List.append_nil]; exact R.slots k k0 k1
  · rw [mfind_app _ _ _ _ hf, findR_put hn]
    split
    · rfl
    · exact R.find id
theorem Rel.drop (R : Rel W Z u E) (hf : findR id W = some r) (A : Option Addr) (c : Nat) : Rel (dropR id W) (Z.set r.slot.toNat (A, c, dropT id (slotL W r.slot))) ((if dropT id (slotL W r.slot) = [] then clrN (usedN W) r.slot.toNat else usedN W : Nat) : Int) (mdel id E) := by
  have hs := R.wf.slots r (findR_some hf).1
  refine ⟨R.wf.drop, by simpa using R.len, fun k k0 k1 => ?_, by rw [usedN_drop R.wf hf], fun x => ?_, keys_del R.keys⟩
  · rw [gt_setI k0 (by rw [R.len]; omega) hs.1, slotL_drop hf]
    by_cases h : k = r.slot
    · subst h; rw [if_pos rfl, if_pos rfl]
    · rw [if_neg h, if_neg h]; exact R.slots k k0 k1
  · rw [mfind_del R.keys, findR_drop R.wf]
    split
    · rfl
    · exact R.find x
theorem Rel.take (R : Rel W Z u E) (h0 : 0 ≤ k) (h1 : k ≤ 63) (l : List Int) (hl : ∀ x, x ∈ l ↔ x ∈ (slotL W k).map (·.id)) : Rel (leftR W k) (Z.set k.toNat (none, 0, [])) ((clrN (usedN W) k.toNat : Nat) : Int) (mdels l E) := by
  refine ⟨R.wf.left, by simpa using R.len, fun j j0 j1 => ?_, by rw [usedN_left R.wf h0 h1], fun x => ?_, mdels_keys _ _ R.keys⟩
  · rw [gt_setI j0 (by rw [R.len]; omega) h0, slotL_left]
    split
    · rfl
    · exact R.slots j j0 j1
  · rw [mdels_find _ _ R.keys, findR_left R.wf]
    by_cases h : x ∈ l
    · rw [if_pos h, if_pos ((hl x).mp h)]; rfl
    · rw [if_neg h, if_neg (fun e => h ((hl x).mpr e))]; exact R.find x
end
theorem slotL_out {W : List RThing} {k : Int} (hw : Wf W) (h : k < 0 ∨ 63 < k) : slotL W k = [] := by
  unfold slotL
  rw [List.filter_eq_nil_iff.mpr]
  · rfl
  · intro r hr
    have := hw.slots r hr
    simp; omega
theorem leftR_out {W : List RThing} {k : Int} (hw : Wf W) (h : k < 0 ∨ 63 < k) : leftR W k = W := by
  unfold leftR
  rw [List.filter_eq_self]
  intro r hr
  have := hw.slots r hr
  simp; omega
theorem mdels_take {α : Type} {E : List (Int × α × Nat)} {L : List Thing} {i : Int} (h0 : 0 ≤ i) (h1 : i < L.length) : mdels ((L.take (i + 1).toNat).map (·.id)) E = mdel (gt L i).id (mdels ((L.take i.toNat).map (·.id)) E) := by
  rw [take_gt h0 h1]; simp [mdels]
/-- Put, as the document has it. -/
def putV (W : List RThing) (s : Int) (t : Thing) : List RThing × Int := if s < 0 ∨ 63 < s then (W, 2) else if (findR t.id W).isSome then (W, 32) else (W ++ [toR t s], 0)
/-! ### bits -/
theorem adr_slot (d k : Nat) : ((⟨d, 0, none⟩ : Addr).add 0).add (k * 1) = ⟨d, k, none⟩ := by simp [add_lit, add_zero_]
theorem or_u64 (n m : Nat) (hn : n < 2 ^ 64) (hm : m < 2 ^ 64) : IntKind.u64.wrap (BitVec.ofInt 64 (n : Int) ||| BitVec.ofInt 64 (m : Int)).toNat = ((n ||| m : Nat) : Int) := by
  have : (BitVec.ofInt 64 (n : Int) ||| BitVec.ofInt 64 (m : Int)).toNat = n ||| m := by
    rw [BitVec.toNat_or, BitVec.ofInt_natCast, BitVec.ofInt_natCast, BitVec.toNat_ofNat, BitVec.toNat_ofNat, Nat.mod_eq_of_lt hn, Nat.mod_eq_of_lt hm]
  rw [this]
  have := Nat.or_lt_two_pow hn hm
  exact wu64 (by omega)
theorem andNot_u64 (n s : Nat) (hn : n < 2 ^ 64) (hs : s < 64) : IntKind.u64.wrap (BitVec.ofInt 64 (n : Int) &&& ~~~ BitVec.ofInt 64 ((2 ^ s : Nat) : Int)).toNat = ((clrN n s : Nat) : Int) := by
  have h2 : 2 ^ s < 2 ^ 64 := Nat.pow_lt_pow_right (by decide) hs
  have : (BitVec.ofInt 64 (n : Int) &&& ~~~ BitVec.ofInt 64 ((2 ^ s : Nat) : Int)).toNat = clrN n s := by
    rw [BitVec.toNat_and, BitVec.toNat_not, BitVec.ofInt_natCast, BitVec.ofInt_natCast, BitVec.toNat_ofNat, BitVec.toNat_ofNat, Nat.mod_eq_of_lt hn, Nat.mod_eq_of_lt h2]
    unfold clrN
    congr 1; omega
  rw [this]
  have := clrN_lt (s := s) hn
  exact wu64 (by omega)
theorem shl_bit (s : Int) (h0 : 0 ≤ s) (h1 : s ≤ 63) : IntKind.u64.wrap (1 * 2 ^ min s.toNat IntKind.u64.bits) = ((2 ^ s.toNat : Nat) : Int) := by
  have e : min s.toNat IntKind.u64.bits = s.toNat := Nat.min_eq_left (by show s.toNat ≤ 64; omega)
  have h2 : 2 ^ s.toNat < 2 ^ 64 := Nat.pow_lt_pow_right (by decide) (by omega)
  rw [e, Int.one_mul, show ((2 : Int) ^ s.toNat) = ((2 ^ s.toNat : Nat) : Int) by norm_cast]
  generalize 2 ^ s.toNat = q at h2 ⊢
  exact wu64 (by omega)
/-! ### 64 slots without a thing -/
section
variable {w w0 : World} {F : Nat → Prop} {rs : List Res} {TE : TypeId}
theorem SH.addNils (n : Nat) (H : SH w0 F rs w) : SH w0 F ((List.replicate n ((none, 0, []) : Slot)).map (vecZ TE) ++ rs) w := by
  induction n with
  | zero => exact H
  | succ n ih => exact ih.addNil TE 3 encThing
end
/-! ### places -/
theorem idx_gen {α : Type} {p q : α → Bool} (hpq : ∀ x, p x = q x) : ∀ (L : List α) (k : Int), (L.find? q = none ∧ idxFrom p k L = -1 ∧ L.eraseP q = L) ∨ ∃ (j : Nat) (t : α), L.find? q = some t ∧ idxFrom p k L = k + j ∧ j < L.length ∧ L[j]? = some t ∧ L.eraseP q = L.take j ++ L.drop (j + 1)
  | [], k => .inl ⟨rfl, rfl, rfl⟩
  | x :: L, k => by
    by_cases h : q x = true
    · refine .inr ⟨0, x, List.find?_cons_of_pos h, ?_, by simp, rfl, by rw [List.eraseP_cons_of_pos h]; simp⟩
      unfold idxFrom; rw [if_pos (by rw [hpq]; exact h)]; simp
    · have hk : idxFrom p k (x :: L) = idxFrom p (k + 1) L := by
        show (if p x then k else idxFrom p (k + 1) L) = _
        rw [if_neg (by rw [hpq]; exact h)]
      rw [List.find?_cons_of_neg h, List.eraseP_cons_of_neg h, hk]
      rcases idx_gen hpq L (k + 1) with ⟨h1, h2, h3⟩ | ⟨j, t, h1, h2, h3, h4, h5⟩
      · exact .inl ⟨h1, h2, by rw [h3]⟩
      · exact .inr ⟨j + 1, t, h1, by rw [h2]; omega, by simp; omega, by simpa using h4, by rw [h5]; simp⟩
def idxT (id : Int) (L : List Thing) : Int := idxFrom (fun t : Thing => decide (t.id = id)) 0 L
def idxR (id : Int) (L : List RThing) : Int := idxFrom (fun t : RThing => decide (t.id = id)) 0 L
theorem idxT_some {id : Int} {L : List Thing} {t : Thing} (h : findT id L = some t) : 0 ≤ idxT id L ∧ idxT id L < L.length ∧ gt L (idxT id L) = t ∧ dropT id L = L.take (idxT id L).toNat ++ L.drop (idxT id L + 1).toNat := by
  unfold findT at h
  rcases idx_gen (p := fun t : Thing => decide (t.id = id)) (q := fun t : Thing => decide (id = t.id)) (fun x => by simp [eq_comm]) L 0 with ⟨h1, _⟩ | ⟨j, u, h1, h2, h3, h4, h5⟩
  · rw [h1] at h; cases h
  · rw [h1] at h; injection h with h; subst h
    have e : idxT id L = j := by unfold idxT; rw [h2]; omega
    rw [e]
    refine ⟨by omega, by omega, ?_, by rw [show (j : Int).toNat = j by omega, show ((j : Int) + 1).toNat = j + 1 by omega]; exact h5⟩
    have := gt_get (L := L) (i := (j : Int)) (by omega) (by omega)
    simp only [Int.toNat_natCast] at this
    rw [h4] at this; injection this with this; exact this.symm
theorem idxR_some {id : Int} {L : List RThing} {t : RThing} (h : findR id L = some t) : 0 ≤ idxR id L ∧ idxR id L < L.length ∧ gt L (idxR id L) = t ∧ dropR id L = L.take (idxR id L).toNat ++ L.drop (idxR id L + 1).toNat := by
  unfold findR at h
  rcases idx_gen (p := fun t : RThing => decide (t.id = id)) (q := fun t : RThing => decide (id = t.id)) (fun x => by simp [eq_comm]) L 0 with ⟨h1, _⟩ | ⟨j, u, h1, h2, h3, h4, h5⟩
  · rw [h1] at h; cases h
  · rw [h1] at h; injection h with h; subst h
    have e : idxR id L = j := by unfold idxR; rw [h2]; omega
    rw [e]
    refine ⟨by omega, by omega, ?_, by rw [show (j : Int).toNat = j by omega, show ((j : Int) + 1).toNat = j + 1 by omega]; exact h5⟩
    have := gt_get (L := L) (i := (j : Int)) (by omega) (by omega)
    simp only [Int.toNat_natCast] at this
    rw [h4] at this; injection this with this; exact this.symm
theorem idxR_none {id : Int} {L : List RThing} (h : findR id L = none) : idxR id L = -1 := by
  unfold findR at h
  rcases idx_gen (p := fun t : RThing => decide (t.id = id)) (q := fun t : RThing => decide (id = t.id)) (fun x => by simp [eq_comm]) L 0 with ⟨_, h2, _⟩ | ⟨j, u, h1, _⟩
  · exact h2
  · rw [h1] at h; cases h
theorem dropT_len {id : Int} {L : List Thing} {t : Thing} (h : findT id L = some t) : ((dropT id L).length : Int) = L.length - 1 := by
  obtain ⟨h0, h1, _, h3⟩ := idxT_some h
  rw [h3]; simp; omega
theorem slotL_le (W : List RThing) (k : Int) : (slotL W k).length ≤ W.length := by unfold slotL; rw [List.length_map]; exact List.length_filter_le _ _
theorem gt_findT {W : List RThing} {id : Int} {r : RThing} (h : findR id W = some r) : findT id (slotL W r.slot) = some (plainR r) := find_in_slot h
section
variable {w w0 : World} {rs : List Res}
theorem SH.res0 {r : Res} (H : SH w0 noBlocks rs w) (h : r.holds w0) : r.holds w := r.loc w0 w (fun x hx => H.keep x (r.inside w0 x h hx) id) h
theorem SH.unpackL {F : Nat → Prop} {L : List Res} (pre : List Res) (H : SH w0 F (pre ++ [pack L]) w) : SH w0 F (pre ++ L) w := ((H.perm List.perm_append_comm).unpack).perm List.perm_append_comm
theorem SH.packL {F : Nat → Prop} {L : List Res} (pre : List Res) (H : SH w0 F (pre ++ L) w) : SH w0 F (pre ++ [pack L]) w := (SH.packUp (H.perm List.perm_append_comm)).perm (List.perm_append_comm (l₁ := [pack L]))
theorem pack_hold {L : List Res} {r : Res} (h : (pack L).holds w) (hr : r ∈ L) : r.holds w := h.1 r hr
end
end Go.Proofs.Ytblipnjjgbggiaa
