/- What is written is read again. Conditions: none. -/
import Derived.Test.YtblipnjjgbggiaaQrd
import Derived.Test.YtblipnjjgbggiaaQwr
namespace Go.Proofs.Ytblipnjjgbggiaa
open Go Go.RowKit
set_option linter.unusedVariables false
set_option linter.unusedSimpArgs false
theorem pNum_num {m : Bool} {most : Int} {n : Nat} {R : List Int} (hn : n < 2 ^ 64) (hm : (n : Int) ≤ most) : pNum m most (numM 0 n ++ R) = some ((n : Int), false, R) := by
  have h8 := bytesN_8 hn
  obtain ⟨k, hk⟩ : ∃ k, (bytesN n).length = k := ⟨_, rfl⟩
  have e0 : numM 0 n ++ R = (k : Int) :: (bytesN n ++ R) := by unfold numM; rw [Int.zero_add, hk]; rfl
  rw [e0]
  have g0 : gt ((k : Int) :: (bytesN n ++ R)) 0 = k := by rw [gt_eq (by decide) (by simp; omega)]; rfl
  have hsz : szV m (k : Int) = k := by unfold szV; split <;> omega
  have hl : ((k : Int) :: (bytesN n ++ R)).length = k + R.length + 1 := by simp [hk]
  have hd : (((k : Int) :: (bytesN n ++ R)).drop 1).take (k : Int).toNat = bytesN n := by
    rw [Int.toNat_natCast, List.drop_one, List.tail_cons, ← hk, List.take_left]
  have hr : ((k : Int) :: (bytesN n ++ R)).drop ((k : Int) + 1).toNat = R := by
    have e : ((k : Int) + 1).toNat = k + 1 := by omega
    rw [e, List.drop_succ_cons, ← hk, List.drop_left]
  unfold pNum
  rw [g0, hsz, hd, hr, valB_bytesN, if_neg (by rw [hl]; omega), if_neg, if_neg (by omega)]
  · congr 2
    have : decide ((128 : Int) ≤ k) = false := decide_eq_false (by omega)
    rw [this, Bool.and_false]
  · rintro (h | h | ⟨h, h'⟩)
    · omega
    · rw [hl] at h; omega
    · have hn0 : n ≠ 0 := fun z => by subst z; rw [bytesN_zero] at hk; simp at hk; omega
      obtain ⟨x, M, e, hx⟩ := bytesN_head n hn0
      rw [e, gt_eq (by decide) (by simp; omega)] at h'
      exact hx h'
theorem pNum_i {m : Bool} {most x : Int} {R : List Int} (h0 : 0 ≤ x) (h1 : x ≤ 18446744073709551615) (hm : x ≤ most) : pNum m most (numI x ++ R) = some (x, false, R) := by
  obtain ⟨n, rfl⟩ := Int.eq_ofNat_of_zero_le h0
  exact pNum_num (by omega) hm
theorem sN_i {most x : Int} {R : List Int} (h0 : 0 ≤ x) (h1 : x ≤ 18446744073709551615) (hm : x ≤ most) : sN most (numI x ++ R, false) = (R, false) ∧ vN most (numI x ++ R, false) = x := by
  unfold sN vN
  rw [pNum_i h0 h1 hm]
  exact ⟨rfl, rfl⟩
def OkX (X : List Thing) : Prop := ∀ t, t ∈ X → (0 ≤ t.id ∧ t.id ≤ 18446744073709551615) ∧ (0 ≤ t.gen ∧ t.gen ≤ 1152921504606846976) ∧ (0 ≤ t.due ∧ t.due ≤ 1125899906842624)
theorem rdT_put {X : List Thing} (hX : OkX X) : ∀ k : Nat, k ≤ X.length → rdT (X.flatMap thB, false) k = (X.take k, ((X.drop k).flatMap thB, false))
  | 0, _ => by simp [rdT]
  | k + 1, h => by
    have ih := rdT_put hX k (by omega)
    have hg : X.drop k = X[k] :: X.drop (k + 1) := (List.getElem_cons_drop (by omega)).symm
    obtain ⟨h1, h2, h3⟩ := hX X[k] (List.getElem_mem _)
    have e : (X.drop k).flatMap thB = numI X[k].id ++ (numI X[k].gen ++ (numI X[k].due ++ (X.drop (k + 1)).flatMap thB)) := by
      rw [hg, List.flatMap_cons]; unfold thB; simp only [List.append_assoc]
    show (_ ++ [_], _) = _
    rw [ih, e]
    obtain ⟨a1, a2⟩ := sN_i (most := U64) (R := numI X[k].gen ++ (numI X[k].due ++ (X.drop (k + 1)).flatMap thB)) h1.1 h1.2 h1.2
    obtain ⟨b1, b2⟩ := sN_i (most := MXI) (R := numI X[k].due ++ (X.drop (k + 1)).flatMap thB) h2.1 (by omega) h2.2
    obtain ⟨c1, c2⟩ := sN_i (most := HZI) (R := (X.drop (k + 1)).flatMap thB) h3.1 (by omega) h3.2
    simp only [a1, a2, b1, b2, c1, c2]
    rw [List.take_succ_eq_append_getElem (by omega)]
theorem read_put {now last : Int} {X : List Thing} (hs : sndP now last X) (h0 : 0 ≤ last) (hi : ∀ t, t ∈ X → 0 ≤ t.id ∧ t.id ≤ 18446744073709551615) : rdOk (putB now last X, false) = true ∧ oNow (putB now last X, false) = now ∧ oLast (putB now last X, false) = last ∧ oX (putB now last X, false) = X := by
  have hX : OkX X := fun t ht => by
    have := hs.2.2.2.ok t ht
    unfold okT at this
    have h1 := hs.2.1
    exact ⟨hi t ht, ⟨by omega, by omega⟩, by omega, by omega⟩
  have hl := hs.2.2.1
  have hlx := hs.2.1
  have e0 : putB now last X = numI now ++ (numI last ++ (numI X.length ++ X.flatMap thB)) := by
    unfold putB intM numI; rw [if_neg (by have := hs.1; omega)]; simp only [List.append_assoc]
  have d1 : sI (putB now last X, false) = (numI last ++ (numI X.length ++ X.flatMap thB), false) ∧ vI (putB now last X, false) = now := by
    unfold sI vI
    rw [e0, pNum_i (m := true) (by have := hs.1; omega) (by have := hs.1; omega) (by have := hs.1; omega)]
    exact ⟨rfl, rfl⟩
  obtain ⟨a1, a2⟩ := sN_i (most := MXI) (R := numI X.length ++ X.flatMap thB) h0 (by omega) hs.2.1
  obtain ⟨b1, b2⟩ := sN_i (most := 256) (x := (X.length : Int)) (R := X.flatMap thB) (by omega) (by omega) (by omega)
  have hk : rdK (putB now last X, false) = X.length := by unfold rdK; rw [d1.1, a1, b2]
  have h3 : s3 (putB now last X, false) = (X.flatMap thB, false) := by unfold s3; rw [d1.1, a1, b1]
  have hT := rdT_put hX X.length (Nat.le_refl _)
  rw [List.take_length, List.drop_length] at hT
  have hxx : rdX (putB now last X, false) = X := by unfold rdX; rw [h3, hk, Int.toNat_natCast, hT]
  have hzz : rdZ (putB now last X, false) = ([], false) := by unfold rdZ; rw [h3, hk, Int.toNat_natCast, hT]; rfl
  have hv : vN MXI (sI (putB now last X, false)) = last := by rw [d1.1, a2]
  have ho : rdOk (putB now last X, false) = true := by
    unfold rdOk
    rw [hzz, hxx, d1.2, hv, sndB_true.mpr hs]; rfl
  refine ⟨ho, ?_, ?_, ?_⟩
  · unfold oNow; rw [if_pos ho, d1.2]
  · unfold oLast; rw [if_pos ho, hv]
  · unfold oX; rw [if_pos ho, hxx]
end Go.Proofs.Ytblipnjjgbggiaa
