/- Dice: what bytes tell as numbers; the plain mathematics. Conditions: none. -/
import Derived.Test.YtnmglobfdlnenaaFacts
import Derived.Laws.MathBits
namespace Go.Proofs.Ytnmglobfdlnenaa
open Go Go.RowKit
set_option linter.unusedVariables false
set_option linter.unusedSimpArgs false

/-- Bytes as a number, the lowest one first. -/
def le : List Int → Int
  | [] => 0
  | x :: xs => x + 256 * le xs
def Bytes (L : List Int) : Prop := ∀ x, x ∈ L → 0 ≤ x ∧ x ≤ 255
instance (L : List Int) : Decidable (Bytes L) := by unfold Bytes; infer_instance
theorem Bytes.drop {L : List Int} (h : Bytes L) (k : Nat) : Bytes (L.drop k) := fun x hx => h x (List.mem_of_mem_drop hx)
theorem Bytes.take {L : List Int} (h : Bytes L) (k : Nat) : Bytes (L.take k) := fun x hx => h x (List.mem_of_mem_take hx)
theorem le_bound : ∀ (L : List Int), Bytes L → 0 ≤ le L ∧ le L < 256 ^ L.length
  | [], _ => by simp [le]
  | x :: xs, h => by
    have ⟨h0, h1⟩ := le_bound xs (fun y hy => h y (by simp [hy]))
    have hx := h x (by simp)
    simp only [le, List.length_cons, Int.pow_succ]
    omega
theorem le_snoc : ∀ (L : List Int) (x : Int), le (L ++ [x]) = le L + x * 256 ^ L.length
  | [], x => by simp [le]
  | y :: ys, x => by
    simp only [List.cons_append, le, le_snoc ys x, List.length_cons, Int.pow_succ]
    rw [Int.mul_add, Int.add_assoc]
    congr 2
    rw [Int.mul_comm (256 ^ ys.length) 256, ← Int.mul_assoc, ← Int.mul_assoc, Int.mul_comm 256 x]
theorem or_add (a b m : Nat) (ha : a < 2 ^ m) : a ||| b * 2 ^ m = a + b * 2 ^ m := by
  rw [Nat.or_comm, Nat.mul_comm, Nat.add_comm]
  exact (Nat.two_pow_add_eq_or_of_lt ha b).symm
/-- One more byte. -/
theorem le_or (a b : Int) (i : Nat) (hi : i < 8) (ha0 : 0 ≤ a) (ha : a < 256 ^ i) (hb0 : 0 ≤ b) (hb : b ≤ 255) :
    IntKind.u64.wrap ((BitVec.ofInt IntKind.u64.bits a ||| BitVec.ofInt IntKind.u64.bits (b * 256 ^ i)).toNat : Int) = a + b * 256 ^ i := by
  obtain ⟨a, rfl⟩ := Int.eq_ofNat_of_zero_le ha0
  obtain ⟨b, rfl⟩ := Int.eq_ofNat_of_zero_le hb0
  have e : (256 : Nat) ^ i = 2 ^ (8 * i) := by rw [Nat.pow_mul]
  have eI : (256 : Int) ^ i = ((2 ^ (8 * i) : Nat) : Int) := by rw [← e]; simp
  rw [eI] at ha ⊢
  have ha' : a < 2 ^ (8 * i) := by exact_mod_cast ha
  have hb' : b ≤ 255 := by omega
  have hp : 2 ^ (8 * i) ≤ 2 ^ 56 := Nat.pow_le_pow_right (by omega) (by omega)
  have hp' : (2 : Nat) ^ (8 * i) * 256 ≤ 2 ^ 64 := by
    have : (2 : Nat) ^ 64 = 2 ^ 56 * 256 := by decide
    omega
  have hbm : b * 2 ^ (8 * i) ≤ 255 * 2 ^ (8 * i) := Nat.mul_le_mul_right _ hb'
  have hlt : b * 2 ^ (8 * i) < 2 ^ 64 := by omega
  have halt : a < 2 ^ 64 := by omega
  have hb64 : IntKind.u64.bits = 64 := rfl
  have key : (BitVec.ofInt IntKind.u64.bits (a : Int) ||| BitVec.ofInt IntKind.u64.bits ((b : Int) * ((2 ^ (8 * i) : Nat) : Int))).toNat = a + b * 2 ^ (8 * i) := by
    rw [hb64]
    have e1 : (BitVec.ofInt 64 (a : Int)).toNat = a := by
      rw [BitVec.toNat_ofInt]; simp; omega
    have e2 : (BitVec.ofInt 64 ((b : Int) * ((2 ^ (8 * i) : Nat) : Int))).toNat = b * 2 ^ (8 * i) := by
      rw [BitVec.toNat_ofInt, ← Int.natCast_mul, ← Int.natCast_emod, Int.toNat_natCast]; exact Nat.mod_eq_of_lt hlt
    rw [BitVec.toNat_or, e1, e2, or_add _ _ _ ha']
  rw [key]
  have : ((a + b * 2 ^ (8 * i) : Nat) : Int) = (a : Int) + (b : Int) * ((2 ^ (8 * i) : Nat) : Int) := by simp
  rw [← this]
  have hs : a + b * 2 ^ (8 * i) < 18446744073709551616 := by
    have h64 : (2 : Nat) ^ 64 = 18446744073709551616 := by decide
    clear key this hlt halt hp
    generalize b * 2 ^ (8 * i) = Y at *
    generalize 2 ^ (8 * i) = X at *
    omega
  generalize a + b * 2 ^ (8 * i) = Z at *
  exact wu64 ⟨by omega, by omega⟩
theorem shl_byte (b : Int) (i : Nat) (hi : i < 8) (hb0 : 0 ≤ b) (hb : b ≤ 255) : IntKind.u64.wrap (b * 2 ^ min ((8 * (i : Int)).toNat) IntKind.u64.bits) = b * 256 ^ i := by
  have hb64 : IntKind.u64.bits = 64 := rfl
  have e0 : (8 * (i : Int)).toNat = 8 * i := by omega
  rw [hb64, e0, Nat.min_eq_left (by omega)]
  have e : (2 : Int) ^ (8 * i) = 256 ^ i := by rw [Int.pow_mul]; rfl
  rw [e]
  have hp : (256 : Int) ^ i ≤ 72057594037927936 := by
    have h7 : (256 : Nat) ^ 7 = 72057594037927936 := by decide
    have h := Nat.pow_le_pow_right (n := 256) (by omega) (show i ≤ 7 by omega)
    rw [h7] at h
    have h' : ((256 ^ i : Nat) : Int) ≤ 72057594037927936 := by omega
    rw [Int.natCast_pow] at h'
    exact h'
  have h0 : (0 : Int) < 256 ^ i := Int.pow_pos (by omega)
  have h1 : b * 256 ^ i ≤ 255 * 256 ^ i := Int.mul_le_mul_of_nonneg_right hb (by omega)
  have h2 : 0 ≤ b * 256 ^ i := Int.mul_nonneg hb0 (by omega)
  exact wu64 ⟨h2, by omega⟩
theorem gt_bytes {L : List Int} (h : Bytes L) {i : Int} (h0 : 0 ≤ i) (h1 : i < L.length) : 0 ≤ gt L i ∧ gt L i ≤ 255 := h _ (List.mem_of_getElem? (gt_get h0 h1))
theorem take_gt {α : Type} [Inhabited α] {L : List α} {i : Int} (h0 : 0 ≤ i) (h1 : i < L.length) : L.take (i + 1).toNat = L.take i.toNat ++ [gt L i] := by
  have e : (i + 1).toNat = i.toNat + 1 := by omega
  have hl : i.toNat < L.length := by omega
  rw [e, List.take_succ_eq_append_getElem hl]
  congr 2
  have := gt_get h0 h1
  rw [List.getElem?_eq_getElem hl] at this
  injection this
theorem le_take {L : List Int} {i : Int} (h0 : 0 ≤ i) (h1 : i < L.length) : le (L.take i.toNat) + gt L i * 256 ^ i.toNat = le (L.take (i + 1).toNat) := by
  rw [take_gt h0 h1, le_snoc, List.length_take, Nat.min_eq_left (by omega)]
theorem le_take_bd {L : List Int} (h : Bytes L) {i : Int} (h0 : 0 ≤ i) (h1 : i ≤ L.length) : 0 ≤ le (L.take i.toNat) ∧ le (L.take i.toNat) < 256 ^ i.toNat := by
  have := le_bound (L.take i.toNat) (h.take _)
  rw [List.length_take, Nat.min_eq_left (by omega)] at this
  exact this
theorem shl_byte' {b i : Int} (h0 : 0 ≤ i) (hi : i < 8) (hb0 : 0 ≤ b) (hb : b ≤ 255) : IntKind.u64.wrap (b * 2 ^ min ((8 * i).toNat) IntKind.u64.bits) = b * 256 ^ i.toNat := by
  obtain ⟨n, rfl⟩ := Int.eq_ofNat_of_zero_le h0
  exact shl_byte b n (by omega) hb0 hb

theorem bl_rng {n : Nat} (h : n < 256) : -9223372036854775808 ≤ (bitLen n : Int) ∧ (bitLen n : Int) ≤ 9223372036854775807 := by have := bitLen_le8 n h; omega
theorem bl_add {n : Nat} {a : Int} (ha : 0 ≤ a ∧ a ≤ 100) (h : n < 256) : -9223372036854775808 ≤ a + (bitLen n : Int) ∧ a + (bitLen n : Int) ≤ 9223372036854775807 := by have := bitLen_le8 n h; omega
theorem bl_step (y : Int) (s : Nat) (si c : Int) (hs : si = (s : Int)) (hc : c = ((2 ^ s : Nat) : Int)) (h : c ≤ y) : (bitLen y.toNat : Int) = si + bitLen (y / c).toNat := by
  subst hs
  have hp : 0 < 2 ^ s := Nat.two_pow_pos s
  obtain ⟨n, rfl⟩ := Int.eq_ofNat_of_zero_le (show 0 ≤ y by omega)
  have hn : 2 ^ s ≤ n := by omega
  rw [hc, ← Int.natCast_ediv, Int.toNat_natCast, Int.toNat_natCast]
  rw [bitLen_shift n s (Nat.ne_of_gt (Nat.div_pos hn hp))]; simp
theorem fdiv_lit (x : Int) (s : Int) (c : Int) (h : (2 : Int) ^ min s.toNat IntKind.u64.bits = c) (hc : 0 < c) : x.fdiv (2 ^ min s.toNat IntKind.u64.bits) = x / c := by
  rw [h, Int.fdiv_eq_ediv_of_nonneg _ (by omega)]

theorem bitLen_64 {n : Nat} (h : n < 2 ^ 64) : bitLen n ≤ 64 := by
  unfold bitLen
  split
  · omega
  · rename_i h0
    have := (Nat.log2_lt h0).2 h
    omega
/-- How many bytes a number below n takes. -/
def belowK (n : Int) : Nat := if n < 2 then 0 else (((bitLen (n - 1).toNat : Int) + 7) / 8).toNat
def belowV (L : List Int) (n : Int) : Int := if n < 2 then 0 else le (L.take (belowK n)) % n
theorem belowK_le {n : Int} (h : n ≤ 18446744073709551615) : belowK n ≤ 8 := by
  unfold belowK
  split
  · omega
  · have := bitLen_64 (n := (n - 1).toNat) (by have : (2 : Nat) ^ 64 = 18446744073709551616 := by decide
                                               omega)
    omega
theorem belowV_lt {L : List Int} (hB : Bytes L) {n : Int} (h : 0 < n) : 0 ≤ belowV L n ∧ belowV L n < n := by
  unfold belowV
  split
  · omega
  · exact ⟨Int.emod_nonneg _ (by omega), Int.emod_lt_of_pos _ (by omega)⟩
theorem u64_i64 {n : Int} (h : 0 ≤ n ∧ n ≤ 18446744073709551615) : IntKind.u64.wrap (IntKind.i64.wrap n) = n := by
  rw [IntKind.wrap_u64, IntKind.wrap_i64]; omega
def wayI (n : Int) : Int := if n = 18446744073709551615 then 0 else n + 1
theorem way_eq {n : Int} (h : 0 ≤ n ∧ n ≤ 18446744073709551615) : IntKind.u64.wrap (n + 1) = wayI n := by
  rw [IntKind.wrap_u64]; unfold wayI; split <;> omega
theorem i64_add_i64 (a b : Int) : IntKind.i64.wrap (a + IntKind.i64.wrap b) = IntKind.i64.wrap (a + b) := by
  simp only [IntKind.wrap_i64]; omega
theorem i64_rng (n : Int) : -9223372036854775808 ≤ IntKind.i64.wrap n ∧ IntKind.i64.wrap n ≤ 9223372036854775807 := by
  simp only [IntKind.wrap_i64]; omega
theorem le_take_nn {L : List Int} (hB : Bytes L) (k : Nat) : 0 ≤ le (L.take k) := (le_bound _ (hB.take k)).1
def irange (i : Int) : List Int := (List.range i.toNat).map Int.ofNat
theorem irange_succ {i : Int} (h : 0 ≤ i) : irange (i + 1) = irange i ++ [i] := by
  unfold irange
  rw [show (i + 1).toNat = i.toNat + 1 by omega, List.range_succ]
  simp; omega
theorem irange_len (i : Int) : (irange i).length = i.toNat := by simp [irange]
/-- Two elements of a list, exchanged. -/
def swp (M : List Int) (i k : Int) : List Int := (M.set i.toNat (gt M k)).set k.toNat (gt M i)
theorem swp_len (M : List Int) (i k : Int) : (swp M i k).length = M.length := by simp [swp]
theorem gt_eq {α : Type} [Inhabited α] {L : List α} {i : Int} (h0 : 0 ≤ i) (h1 : i < L.length) : gt L i = L[i.toNat]'(by omega) := by
  have := gt_get h0 h1
  rw [List.getElem?_eq_getElem (by omega)] at this
  injection this with this; exact this.symm
theorem swp_perm {M : List Int} {i k : Int} (hi : 0 ≤ i) (hi1 : i < M.length) (hk : 0 ≤ k) (hk1 : k < M.length) : (swp M i k).Perm M := by
  unfold swp
  rw [gt_eq hi hi1, gt_eq hk hk1]
  exact List.set_set_perm (by omega) (by omega)

theorem i64_quo_ {a b : Int} (ha : 0 ≤ a ∧ a ≤ 4611686018427387904) (hb : 0 < b) : IntKind.i64.wrap (Int.tdiv a b) = a / b := by
  rw [Int.tdiv_eq_ediv_of_nonneg ha.1]
  have h1 : 0 ≤ a / b := Int.ediv_nonneg ha.1 (by omega)
  have h2 : a / b ≤ a := Int.ediv_le_self _ ha.1
  exact w64 (by omega)
theorem way_ex {a b : Int} (ha : -9223372036854775808 ≤ a ∧ a ≤ 9223372036854775807) (hb : -9223372036854775808 ≤ b ∧ b ≤ 9223372036854775807) (h : a ≤ b) :
    ∃ way, IntKind.u64.wrap (IntKind.u64.wrap (IntKind.i64.wrap (b - a)) + 1) = way ∧ (0 ≤ way ∧ way ≤ 18446744073709551615) ∧ (way = 0 → a = -9223372036854775808 ∧ b = 9223372036854775807) ∧ (way ≠ 0 → way = b - a + 1) := by
  refine ⟨_, rfl, ?_⟩
  rw [u64_i64 (by omega), way_eq (by omega)]
  unfold wayI
  split <;> omega
theorem irange_mem {n x : Int} (h : x ∈ irange n) : 0 ≤ x ∧ x < n := by
  simp [irange] at h
  obtain ⟨a, ha, rfl⟩ := h
  omega
theorem irange_nodup (n : Int) : (irange n).Nodup := by
  unfold irange
  rw [List.nodup_iff_pairwise_ne, List.pairwise_map]
  exact (List.nodup_range (n := n.toNat)).imp fun h h' => h (Int.ofNat.inj h')
theorem gt_mem {α : Type} [Inhabited α] {L : List α} {i : Int} (h0 : 0 ≤ i) (h1 : i < L.length) : gt L i ∈ L := List.mem_of_getElem? (gt_get h0 h1)
theorem drop_gt {α : Type} [Inhabited α] {L : List α} {i : Int} (h0 : 0 ≤ i) (h1 : i < L.length) : L.drop i.toNat = gt L i :: L.drop (i + 1).toNat := by
  have e : (i + 1).toNat = i.toNat + 1 := by omega
  rw [e, gt_eq h0 h1, List.drop_eq_getElem_cons (by omega)]
theorem gt_set_ne {α : Type} [Inhabited α] {L : List α} {i j : Int} {x : α} (h0 : 0 ≤ i) (h1 : i < L.length) (j0 : 0 ≤ j) (h : i ≠ j) : gt (L.set j.toNat x) i = gt L i := by
  rw [gt_eq h0 (by simpa using h1), gt_eq h0 h1, List.getElem_set_ne (by omega)]
theorem gt_replicate {α : Type} [Inhabited α] {n i : Int} {x : α} (h0 : 0 ≤ i) (h1 : i < n) : gt (List.replicate n.toNat x) i = x := by
  rw [gt_eq h0 (by simp; omega)]; simp
/-- One that is met: it was not met before, and none that follows. -/
theorem met_step {M : List Int} {n i : Int} {B : List Bool} (hP : M.Perm (irange n)) (hn : 0 ≤ n) (h0 : 0 ≤ i) (h1 : i < M.length) (hB : B.length = n.toNat) (hf : ∀ q, q ∈ M.drop i.toNat → gt B q = false) :
    0 ≤ gt M i ∧ gt M i < n ∧ gt B (gt M i) = false ∧ ∀ q, q ∈ M.drop (i + 1).toNat → gt (B.set (gt M i).toNat true) q = false := by
  have hm := irange_mem (hP.mem_iff.mp (gt_mem h0 h1))
  have hd := drop_gt h0 h1
  have hnd : (M.drop i.toNat).Nodup := (hP.nodup_iff.mpr (irange_nodup n)).sublist (List.drop_sublist _ _)
  rw [hd] at hnd hf
  refine ⟨hm.1, hm.2, hf _ (by simp), fun q hq => ?_⟩
  have hqm := irange_mem (hP.mem_iff.mp (List.mem_of_mem_drop hq))
  have hne : q ≠ gt M i := fun h => (List.nodup_cons.mp hnd).1 (h ▸ hq)
  rw [gt_set_ne hqm.1 (by omega) hm.1 hne]
  exact hf q (by simp [hq])
/-! ### dice in memory -/
/-- Dice at block d, over bytes that lie in block g, of which L are left. -/
def dice (d : Nat) (g : Option Nat) (L : List Int) : Res :=
  ⟨fun b => b = d ∨ g = some b, fun w => ∃ A c, w.heap[d]? = some (.cells [Value.slice A L.length c].toArray 77 (0, 0)) ∧ L.length ≤ c ∧ (rdr A 1 (L.map encU8)).holds w ∧ A.map (·.block) = g ∧ g ≠ some d, by
    rintro w w' h ⟨A, c, h1, h2, h3, h4, h5⟩
    refine ⟨A, c, (h d (.inl rfl)).trans h1, h2, (rdr A 1 _).loc w w' (fun b hb => h b (.inr ?_)) h3, h4, h5⟩
    cases A with
    | none => exact hb.elim
    | some a => rw [← h4]; exact congrArg some hb, by
    rintro w b ⟨A, c, h1, h2, h3, h4, h5⟩ hb
    rcases hb with hb | hb
    · subst hb
      rcases Nat.lt_or_ge b w.heap.size with h' | h'
      · exact h'
      · rw [Array.getElem?_eq_none h'] at h1; cases h1
    · refine (rdr A 1 _).inside w b h3 ?_
      cases A with
      | none => rw [← h4] at hb; cases hb
      | some a => rw [← h4] at hb; injection hb⟩
section
variable {w w0 : World} {F : Nat → Prop} {rs : List Res} {d : Nat} {g : Option Nat} {L : List Int} {A : Option Addr} {c : Nat}
theorem inRow_iff {A : Option Addr} {b : Nat} : inRow A b ↔ A.map (·.block) = some b := by cases A <;> simp [inRow]
theorem dice_open (H : SH w0 F (dice d g L :: rs) w) : ∃ A c, L.length ≤ c ∧ A.map (·.block) = g ∧ g ≠ some d ∧ SH w0 F (blk d 77 [.slice A L.length c] :: rdr A 1 (L.map encU8) :: rs) w := by
  obtain ⟨A, c, h1, h2, h3, h4, h5⟩ := H.get0
  refine ⟨A, c, h2, h4, h5, H.two h1 h3 (fun b hb => .inl hb) (fun b hb => .inr ?_) ?_⟩
  · rw [← h4]; exact inRow_iff.mp hb
  · intro b hb hb'
    have hb : b = d := hb
    subst hb
    exact h5 (by rw [← h4]; exact inRow_iff.mp hb')
theorem dice_shut (H : SH w0 F (blk d 77 [.slice A L.length c] :: rdr A 1 (L.map encU8) :: rs) w) (hc : L.length ≤ c) (hg : A.map (·.block) = g) (hne : g ≠ some d) : SH w0 F (dice d g L :: rs) w :=
  H.join (fun h1 h2 => ⟨A, c, h1, hc, h2, hg, hne⟩) fun b hb => by
    rcases hb with hb | hb
    · exact .inl hb
    · exact .inr (inRow_iff.mpr (by rw [hg]; exact hb))
end
end Go.Proofs.Ytnmglobfdlnenaa
