/- Contracts of wheel.Wheel: quill.Reader and curfewref01.Reader. Conditions: none. -/
import Derived.Test.YtblipnjjgbggiaaQil
namespace Go.Proofs.Ytblipnjjgbggiaa
open Go Go.RowKit
set_option linter.unusedVariables false
set_option linter.unusedSimpArgs false

def Bytes (L : List Int) : Prop := ∀ x, x ∈ L → 0 ≤ x ∧ x ≤ 255
theorem Bytes.drop {L : List Int} (h : Bytes L) (k : Nat) : Bytes (L.drop k) := fun x hx => h x (List.mem_of_mem_drop hx)
theorem Bytes.take {L : List Int} (h : Bytes L) (k : Nat) : Bytes (L.take k) := fun x hx => h x (List.mem_of_mem_take hx)
theorem shl8_or {v b : Int} (h0 : 0 ≤ v) (h1 : v < 72057594037927936) (h2 : 0 ≤ b ∧ b ≤ 255) : IntKind.u64.wrap (BitVec.ofInt 64 (v * 256) ||| BitVec.ofInt 64 b).toNat = v * 256 + b := by
  obtain ⟨n, rfl⟩ := Int.eq_ofNat_of_zero_le h0
  obtain ⟨m, rfl⟩ := Int.eq_ofNat_of_zero_le h2.1
  have e := or_u64 (n * 256) m (by omega) (by omega)
  have e2 : (n * 256 ||| m) = n * 256 + m := by
    have := Nat.shiftLeft_add_eq_or_of_lt (show m < 2 ^ 8 by omega) n
    rw [Nat.shiftLeft_eq] at this
    exact this.symm
  rw [e2] at e
  have e3 : ((n * 256 : Nat) : Int) = (n : Int) * 256 := Int.natCast_mul n 256
  rw [e3] at e
  exact e.trans (by rw [Int.natCast_add, e3])
theorem shl8 {v : Int} (h0 : 0 ≤ v) (h1 : v < 72057594037927936) : IntKind.u64.wrap (v * 2 ^ min (8 : Int).toNat IntKind.u64.bits) = v * 256 := by
  have e : (2 : Int) ^ min (8 : Int).toNat IntKind.u64.bits = 256 := by decide
  rw [e]; exact wu64 (by omega)
theorem valB_take {L : List Int} (h : Bytes L) {i : Int} (h0 : 0 ≤ i) (h1 : i < L.length) : valB (L.take (i + 1).toNat) = valB (L.take i.toNat) * 256 + gt L i := by rw [take_gt h0 h1, valB_snoc]
theorem p256 {k m : Nat} (h : k ≤ m) : (256 : Int) ^ k ≤ 256 ^ m := by
  have := Nat.pow_le_pow_right (n := 256) (by decide) h
  have h1 : ((256 ^ k : Nat) : Int) ≤ ((256 ^ m : Nat) : Int) := Int.ofNat_le.mpr this
  rw [Int.natCast_pow, Int.natCast_pow] at h1
  exact h1
theorem valB_small {L : List Int} (h : Bytes L) (hl : L.length ≤ 7) : 0 ≤ valB L ∧ valB L < 72057594037927936 := by
  have h1 := valB_rng L h
  refine ⟨h1.1, Int.lt_of_lt_of_le h1.2 ?_⟩
  have : (256 : Int) ^ L.length ≤ 256 ^ 7 := p256 hl
  exact this
theorem valB_big {L : List Int} (h : Bytes L) (hl : L.length ≤ 8) : 0 ≤ valB L ∧ valB L ≤ 18446744073709551615 := by
  have h1 := valB_rng L h
  have : (256 : Int) ^ L.length ≤ 256 ^ 8 := p256 hl
  have e : (256 : Int) ^ 8 = 18446744073709551616 := by decide
  omega

/-! (*curfew/quill.Reader).Left -/
set_option maxRecDepth 20000 in
theorem qLeft_c (r : Nat) (A1 : Option Addr) (c : Nat) (L : List Int) (bad : Bool) (w : World) (hO : (blk r 152 [.slice A1 (L).length c, .bool bad]).holds w) : Does Try.prog 50 #[.pointer (some ⟨r, 0, none⟩)] w (fun v w' => v = .int .i64 L.length ∧ SH w noBlocks [] w') := by
  refine does_enter1 Try.func50 rfl Try.ntmps50 rfl ?_
  have H := SH.start w noBlocks
  refine tr_seq (fun K1 hK1 => ?_)
  -- region 0: quill.go:115
  refine tr_region ?_
  refine tr_val (ov_assign rfl rfl) rfl rfl rfl ?_
  refine tr_nil (hK1 _ _ (TrC.keep [2, 0] ?_))
  show TrC _ _ _ _ [(2, _), (0, _)] _ _
  refine tr_seq (fun K2 hK2 => ?_)
  refine tr_seq (fun K3 hK3 => ?_)
  -- region 1: quill.go:116
  refine tr_region ?_
  refine tr_val (ov_move rfl rfl) rfl rfl rfl ?_
  refine tr_val (ov_eql_nil rfl Try.underlying106 rfl rfl) rfl rfl rfl ?_
  refine tr_nil (hK3 _ _ (TrC.keep [4, 2, 0] ?_))
  show TrC _ _ _ _ [(4, _), (2, _), (0, _)] _ _
  refine tr_condb rfl (fun c4 => ?_) (fun c4 => ?_)
  · cases c4
  · skip
    refine tr_skip (hK2 _ _ (TrC.keep [4, 2, 0] ?_))
    show TrC _ _ _ _ [(4, _), (2, _), (0, _)] _ _
    refine tr_seq (fun K4 hK4 => ?_)
    -- region 3: quill.go:119
    refine tr_region ?_
    refine tr_val (ov_move rfl rfl) rfl rfl rfl ?_
    refine tr_val (ov_nilCheck rfl rfl) rfl rfl rfl ?_
    refine tr_val (ov_fieldAddr rfl Try.underlying152 rfl (Try.sizeOf98 _) (by decide) rfl) rfl rfl rfl ?_
    refine tr_val (ov_load_blk (H.res0 hO) rfl (Try.isAgg98 _) rfl rfl rfl) rfl rfl rfl ?_
    refine tr_val (ov_len rfl rfl Try.underlying98 rfl) rfl rfl rfl ?_
    refine tr_val (ov_assign rfl rfl) rfl rfl rfl ?_
    refine tr_nil (hK4 _ _ (TrC.keep [2, 4, 0] ?_))
    show TrC _ _ _ _ [(2, _), (4, _), (0, _)] _ _
    refine tr_ret (post_ret1 (.inr rfl) rfl rfl ?_)
    exact ⟨rfl, H⟩

/-! (*curfew/quill.Reader).Bad -/
set_option maxRecDepth 20000 in
theorem qBad_c (r : Nat) (A1 : Option Addr) (c : Nat) (L : List Int) (bad : Bool) (w : World) (hO : (blk r 152 [.slice A1 (L).length c, .bool bad]).holds w) : Does Try.prog 51 #[.pointer (some ⟨r, 0, none⟩)] w (fun v w' => v = .bool bad ∧ SH w noBlocks [] w') := by
  refine does_enter1 Try.func51 rfl Try.ntmps51 rfl ?_
  have H := SH.start w noBlocks
  refine tr_seq (fun K1 hK1 => ?_)
  -- region 0: quill.go:112
  refine tr_region ?_
  refine tr_val (ov_assign rfl rfl) rfl rfl rfl ?_
  refine tr_nil (hK1 _ _ (TrC.keep [2, 0] ?_))
  show TrC _ _ _ _ [(2, _), (0, _)] _ _
  refine tr_seq (fun K2 hK2 => ?_)
  -- region 1: quill.go:112
  refine tr_region ?_
  refine tr_val (ov_move rfl rfl) rfl rfl rfl ?_
  refine tr_val (ov_neq_nil rfl Try.underlying106 rfl rfl) rfl rfl rfl ?_
  refine tr_val (ov_move rfl rfl) rfl rfl rfl ?_
  refine tr_splitb (t := 5) rfl (fun s5 => ?_) (fun s5 => ?_)
  · skip
    refine tr_val (ov_move rfl rfl) rfl rfl rfl ?_
    refine tr_val (ov_nilCheck rfl rfl) rfl rfl rfl ?_
    refine tr_val (ov_fieldAddr rfl Try.underlying152 rfl (Try.sizeOf4 _) (by decide) rfl) rfl rfl rfl ?_
    refine tr_val (ov_load_blk (H.res0 hO) rfl (Try.isAgg4 _) rfl rfl rfl) rfl rfl rfl ?_
    refine tr_val (ov_pick (vb := undef) rfl rfl rfl rfl) rfl rfl rfl ?_
    refine tr_val (ov_assign rfl rfl) rfl rfl rfl ?_
    refine tr_nil (hK2 _ _ (TrC.keep [2] ?_))
    show TrC _ _ _ _ [(2, _)] _ _
    refine tr_ret (post_ret1 (.inr rfl) rfl rfl ?_)
    exact ⟨rfl, H⟩
  · cases s5

/-! (*curfew/quill.Reader).Fail -/
set_option maxRecDepth 20000 in
theorem qFail_c (r : Nat) (A1 : Option Addr) (c : Nat) (L : List Int) (bad : Bool) (w : World) (hO : (blk r 152 [.slice A1 (L).length c, .bool bad]).holds w) : Does Try.prog 85 #[.pointer (some ⟨r, 0, none⟩)] w (fun v w' => SH w (blk r 152 [.slice A1 (L).length c, .bool bad]).foot [blk r 152 [.slice none 0 0, .bool true]] w') := by
  refine does_enter1 Try.func85 rfl Try.ntmps85 rfl ?_
  have H := SH.own1 hO
  refine tr_seq (fun K1 hK1 => ?_)
  -- region 0: quill.go:106
  refine tr_region ?_
  refine tr_val (ov_move rfl rfl) rfl rfl rfl ?_
  refine tr_val (ov_neq_nil rfl Try.underlying106 rfl rfl) rfl rfl rfl ?_
  refine tr_nil (hK1 _ _ (TrC.keep [3, 0] ?_))
  show TrC _ _ _ _ [(3, _), (0, _)] _ _
  refine tr_condb rfl (fun c3 => ?_) (fun c3 => ?_)
  · skip
    -- region 1: quill.go:107
    refine tr_region ?_
    refine tr_val (ov_move rfl rfl) rfl rfl rfl ?_
    refine tr_val (ov_move rfl rfl) rfl rfl rfl ?_
    refine tr_val (ov_nilCheck rfl rfl) rfl rfl rfl ?_
    refine tr_val (ov_fieldAddr rfl Try.underlying152 rfl (Try.sizeOf98 _) (by decide) rfl) rfl rfl rfl ?_
    (refine tr_store H.get0 rfl (Try.sizeOf98 _) rfl rfl rfl rfl rfl rfl rfl ?_; intro w1 U; have H := H.upd0 U; clear U)
    try simp only [List.set_cons_zero, List.set_cons_succ, Nat.zero_add] at H
    refine tr_val (ov_nilCheck rfl rfl) rfl rfl rfl ?_
    refine tr_val (ov_fieldAddr rfl Try.underlying152 rfl (Try.sizeOf4 _) (by decide) rfl) rfl rfl rfl ?_
    (refine tr_store H.get0 rfl (Try.sizeOf4 _) rfl rfl rfl rfl rfl rfl rfl ?_; intro w2 U; have H := H.upd0 U; clear U)
    try simp only [List.set_cons_zero, List.set_cons_succ, Nat.zero_add] at H
    refine tr_nil (post_ret0 (.inl rfl) rfl  ?_)
    exact H
  · cases c3

/-! (*curfew/curfewref01.Reader).Fail -/
set_option maxRecDepth 20000 in
theorem rFail_c (r : Nat) (A1 : Option Addr) (c : Nat) (L : List Int) (bad : Bool) (w : World) (hO : (blk r 112 [.slice A1 (L).length c, .bool bad]).holds w) : Does Try.prog 91 #[.pointer (some ⟨r, 0, none⟩)] w (fun v w' => SH w (blk r 112 [.slice A1 (L).length c, .bool bad]).foot [blk r 112 [.slice none 0 0, .bool true]] w') := by
  refine does_enter1 Try.func91 rfl Try.ntmps91 rfl ?_
  have H := SH.own1 hO
  refine tr_seq (fun K1 hK1 => ?_)
  -- region 0: ref.go:43
  refine tr_region ?_
  refine tr_val (ov_move rfl rfl) rfl rfl rfl ?_
  refine tr_val (ov_nilCheck rfl rfl) rfl rfl rfl ?_
  refine tr_val (ov_fieldAddr rfl Try.underlying112 rfl (Try.sizeOf98 _) (by decide) rfl) rfl rfl rfl ?_
  (refine tr_store H.get0 rfl (Try.sizeOf98 _) rfl rfl rfl rfl rfl rfl rfl ?_; intro w1 U; have H := H.upd0 U; clear U)
  try simp only [List.set_cons_zero, List.set_cons_succ, Nat.zero_add] at H
  refine tr_nil (hK1 _ _ (TrC.keep [0] ?_))
  show TrC _ _ _ _ [(0, _)] _ _
  -- region 1: ref.go:44
  refine tr_region ?_
  refine tr_val (ov_move rfl rfl) rfl rfl rfl ?_
  refine tr_val (ov_nilCheck rfl rfl) rfl rfl rfl ?_
  refine tr_val (ov_fieldAddr rfl Try.underlying112 rfl (Try.sizeOf4 _) (by decide) rfl) rfl rfl rfl ?_
  (refine tr_store H.get0 rfl (Try.sizeOf4 _) rfl rfl rfl rfl rfl rfl rfl ?_; intro w2 U; have H := H.upd0 U; clear U)
  try simp only [List.set_cons_zero, List.set_cons_succ, Nat.zero_add] at H
  refine tr_nil (post_ret0 (.inl rfl) rfl  ?_)
  exact H

theorem szV_rng {m : Bool} {c : Int} (h : 0 ≤ c ∧ c ≤ 255) : 0 ≤ szV m c ∧ szV m c ≤ 255 := by unfold szV; split <;> omega

/-! (*curfew/quill.Reader).number -/
set_option maxRecDepth 20000 in
theorem qNumber_c (r : Nat) (A1 : Option Addr) (c : Nat) (L : List Int) (bad : Bool) (w : World) (hA : ∀ (rs : List Res) (w' : World), SH w (blk r 152 [.slice A1 (L).length c, .bool bad]).foot rs w' → Rd w' A1 1 (L.map encU8)) (hc : L.length ≤ c) (hB : Bytes L) (hl : L.length ≤ 65536) (hO : (blk r 152 [.slice A1 (L).length c, .bool bad]).holds w) (most : Int) (marked : Bool) : Does Try.prog 107 #[.pointer (some ⟨r, 0, none⟩), .int .u64 most, .bool marked] w (fun v w' => ∃ A' c', v = .tuple #[.int .u64 (nVal (pNum marked most L)), .bool (nMrk (pNum marked most L))] ∧ SubR A1 L A' (nLst (pNum marked most L)) ∧ (nLst (pNum marked most L)).length ≤ c' ∧ SH w (blk r 152 [.slice A1 (L).length c, .bool bad]).foot [blk r 152 [.slice A' (nLst (pNum marked most L)).length c', .bool (nBad bad (pNum marked most L))]] w') := by
  refine does_enter3 Try.func107 rfl Try.ntmps107 rfl ?_
  have H := SH.own1 hO
  refine tr_seq (fun K1 hK1 => ?_)
  -- region 0: quill.go:123
  refine tr_region ?_
  refine tr_val (ov_assign rfl rfl) rfl rfl rfl ?_
  refine tr_val (ov_assign rfl rfl) rfl rfl rfl ?_
  refine tr_nil (hK1 _ _ (TrC.keep [7, 6, 0, 1, 2] ?_))
  show TrC _ _ _ _ [(7, _), (6, _), (0, _), (1, _), (2, _)] _ _
  refine tr_seq (fun K2 hK2 => ?_)
  refine tr_seq (fun K3 hK3 => ?_)
  -- region 1: quill.go:124
  refine tr_region ?_
  refine tr_val (ov_move rfl rfl) rfl rfl rfl ?_
  refine tr_call (qLeft_c r A1 c L bad _ H.get0) rfl rfl rfl Try.call50 rfl rfl rfl ?_
  rintro _ w1 ⟨rfl, HC⟩
  have H := H.call0n HC
  refine tr_val (ov_eql rfl rfl rfl) rfl rfl rfl ?_
  refine tr_nil (hK3 _ _ (TrC.keep [13, 7, 6, 0, 1, 2] ?_))
  show TrC _ _ _ _ [(13, _), (7, _), (6, _), (0, _), (1, _), (2, _)] _ _
  refine tr_cond rfl (fun c13 => ?_) (fun c13 => ?_)
  · skip
    refine tr_seq (fun K4 hK4 => ?_)
    -- region 2: quill.go:125
    refine tr_region ?_
    refine tr_val (ov_move rfl rfl) rfl rfl rfl ?_
    refine tr_call (qFail_c r A1 c L bad _ H.get0) rfl rfl rfl Try.call85 rfl rfl rfl ?_
    rintro _ w2 HC
    have H := H.call1 HC
    refine tr_nil (hK4 _ _ (TrC.keep [13, 7, 6, 0, 1, 2] ?_))
    show TrC _ _ _ _ [(13, _), (7, _), (6, _), (0, _), (1, _), (2, _)] _ _
    refine tr_seq (fun K5 hK5 => ?_)
    -- region 3: quill.go:126
    refine tr_region ?_
    refine tr_val (ov_assign rfl rfl) rfl rfl rfl ?_
    refine tr_val (ov_assign rfl rfl) rfl rfl rfl ?_
    refine tr_nil (hK5 _ _ (TrC.keep [7, 6, 13, 0, 1, 2] ?_))
    show TrC _ _ _ _ [(7, _), (6, _), (13, _), (0, _), (1, _), (2, _)] _ _
    refine tr_ret (post_ret2 (.inr rfl) rfl rfl rfl ?_)
    (have ho : pNum marked most L = none := (by unfold pNum; rw [if_pos (by omega)]); rw [ho]; exact ⟨none, 0, rfl, SubR.nil A1 L, Nat.le_refl _, H⟩)
  · skip
    refine tr_skip (hK2 _ _ (TrC.keep [13, 7, 6, 0, 1, 2] ?_))
    show TrC _ _ _ _ [(13, _), (7, _), (6, _), (0, _), (1, _), (2, _)] _ _
    refine tr_seq (fun K6 hK6 => ?_)
    -- region 4: quill.go:128
    have hb0 := hB _ (gt_mem (L := L) (i := 0) (by omega) (by omega))
    refine tr_region ?_
    refine tr_val (ov_move rfl rfl) rfl rfl rfl ?_
    refine tr_val (ov_nilCheck rfl rfl) rfl rfl rfl ?_
    refine tr_val (ov_fieldAddr rfl Try.underlying152 rfl (Try.sizeOf98 _) (by decide) rfl) rfl rfl rfl ?_
    refine tr_val (ov_load_blk H.get0 rfl (Try.isAgg98 _) rfl rfl rfl) rfl rfl rfl ?_
    refine tr_val (ov_indexAddrR (hA _ _ H) rfl Try.underlying98 (Try.sizeOf5 _) rfl rfl (by omega) (by omega)) rfl rfl rfl ?_
    refine tr_val (ld_U8 (hA _ _ H) rfl (Try.isAgg5 _) rfl (by omega) (by omega)) rfl rfl rfl ?_
    refine tr_val (ov_conv rfl Try.underlying5 Try.underlying3 rfl (w64 (by omega))) rfl rfl rfl ?_
    refine tr_val (ov_assign rfl rfl) rfl rfl rfl ?_
    refine tr_nil (hK6 _ _ (TrC.keep [8, 13, 7, 6, 0, 1, 2] ?_))
    show TrC _ _ _ _ [(8, _), (13, _), (7, _), (6, _), (0, _), (1, _), (2, _)] _ _
    refine tr_seq_cut_ [13, 6, 0, 1, 2] [(7, .bool (marked && decide (128 ≤ gt L 0))), (8, .int .i64 (szV marked (gt L 0)))] (fun w' => SH w (blk r 152 [.slice A1 (L).length c, .bool bad]).foot [blk r 152 [.slice A1 (L).length c, .bool bad]] w') (fun K7 hK7 => ?_) (fun w3 H => ?_)
    · skip
      refine tr_seq (fun K8 hK8 => ?_)
      -- region 5: quill.go:129
      refine tr_region ?_
      refine tr_val (ov_move rfl rfl) rfl rfl rfl ?_
      refine tr_nil (hK8 _ _ (TrC.keep [23, 8, 13, 7, 6, 0, 1, 2] ?_))
      show TrC _ _ _ _ [(23, _), (8, _), (13, _), (7, _), (6, _), (0, _), (1, _), (2, _)] _ _
      refine tr_condb rfl (fun c23 => ?_) (fun c23 => ?_)
      · skip
        -- region 6: quill.go:130
        refine tr_region ?_
        refine tr_val (ov_move rfl rfl) rfl rfl rfl ?_
        refine tr_val (ov_geq rfl rfl rfl) rfl rfl rfl ?_
        refine tr_val (ov_move rfl rfl) rfl rfl rfl ?_
        refine tr_val (ov_rem rfl rfl rfl (by omega) (Int.tmod_eq_emod_of_nonneg (by omega))) rfl rfl rfl ?_
        refine tr_val (ov_assign rfl rfl) rfl rfl rfl ?_
        refine tr_val (ov_assign rfl rfl) rfl rfl rfl ?_
        exact tr_nil (hK7 _ _ (Sub.consE rfl (by rw [c23]; rfl) (Sub.consE rfl (by unfold szV; rw [if_pos c23]) (Sub.cons rfl (Sub.cons rfl (Sub.cons rfl (Sub.cons rfl (Sub.cons rfl Sub.nil))))))) (H))
      · skip
        exact tr_skip (hK7 _ _ (Sub.consE rfl (by rw [c23]; rfl) (Sub.consE rfl (by unfold szV; rw [c23]; rfl) (Sub.cons rfl (Sub.cons rfl (Sub.cons rfl (Sub.cons rfl (Sub.cons rfl Sub.nil))))))) (H))
    · skip
      show TrC _ _ _ _ [(7, _), (8, _), (13, _), (6, _), (0, _), (1, _), (2, _)] _ _
      refine tr_seq (fun K9 hK9 => ?_)
      refine tr_seq (fun K10 hK10 => ?_)
      -- region 7: quill.go:132
      refine tr_cut [7, 8, 13, 6, 0, 1, 2] [(51, .bool (decide (8 < (szV marked (gt L 0)) ∨ (L.length : Int) ≤ (szV marked (gt L 0)) ∨ (0 < (szV marked (gt L 0)) ∧ gt L 1 = 0))))] (fun w' => SH w (blk r 152 [.slice A1 (L).length c, .bool bad]).foot [blk r 152 [.slice A1 (L).length c, .bool bad]] w') (fun K11 hK11 => ?_) (fun w4 H => ?_)
      · skip
        refine tr_val (ov_move rfl rfl) rfl rfl rfl ?_
        refine tr_val (ov_gtr rfl rfl rfl) rfl rfl rfl ?_
        refine tr_val (ov_move rfl rfl) rfl rfl rfl ?_
        refine tr_split (t := 30) rfl (fun s30 => ?_) (fun s30 => ?_)
        · skip
          refine tr_pass rfl rfl rfl ?_
          refine tr_pass rfl rfl rfl ?_
          refine tr_pass rfl rfl rfl ?_
          refine tr_pass rfl rfl rfl ?_
          refine tr_pass rfl rfl rfl ?_
          refine tr_pass rfl rfl rfl ?_
          refine tr_pass rfl rfl rfl ?_
          refine tr_val (ov_pick (vb := undef) rfl rfl rfl rfl) rfl rfl rfl ?_
          refine tr_val (ov_move rfl rfl) rfl rfl rfl ?_
          refine tr_pass rfl rfl rfl ?_
          refine tr_pass rfl rfl rfl ?_
          refine tr_pass rfl rfl rfl ?_
          refine tr_pass rfl rfl rfl ?_
          refine tr_pass rfl rfl rfl ?_
          refine tr_pass rfl rfl rfl ?_
          refine tr_pass rfl rfl rfl ?_
          refine tr_pass rfl rfl rfl ?_
          refine tr_pass rfl rfl rfl ?_
          refine tr_pass rfl rfl rfl ?_
          refine tr_pass rfl rfl rfl ?_
          refine tr_val (ov_pick (vb := undef) rfl rfl rfl rfl) rfl rfl rfl ?_
          exact tr_nil (hK11 _ _ (Sub.consE rfl (congrArg Value.bool (by exact eqT (by skip; omega))) (Sub.cons rfl (Sub.cons rfl (Sub.cons rfl (Sub.cons rfl (Sub.cons rfl (Sub.cons rfl (Sub.cons rfl Sub.nil)))))))) (H))
        · skip
          refine tr_val (ov_move rfl rfl) rfl rfl rfl ?_
          refine tr_val (ov_move rfl rfl) rfl rfl rfl ?_
          refine tr_val (ov_nilCheck rfl rfl) rfl rfl rfl ?_
          refine tr_val (ov_fieldAddr rfl Try.underlying152 rfl (Try.sizeOf98 _) (by decide) rfl) rfl rfl rfl ?_
          refine tr_val (ov_load_blk H.get0 rfl (Try.isAgg98 _) rfl rfl rfl) rfl rfl rfl ?_
          refine tr_val (ov_len rfl rfl Try.underlying98 rfl) rfl rfl rfl ?_
          refine tr_val (ov_geq rfl rfl rfl) rfl rfl rfl ?_
          refine tr_val (ov_pick_f (va := undef) rfl rfl rfl rfl) rfl rfl rfl ?_
          refine tr_val (ov_move rfl rfl) rfl rfl rfl ?_
          refine tr_split (t := 39) rfl (fun s39 => ?_) (fun s39 => ?_)
          · skip
            refine tr_pass rfl rfl rfl ?_
            refine tr_pass rfl rfl rfl ?_
            refine tr_pass rfl rfl rfl ?_
            refine tr_pass rfl rfl rfl ?_
            refine tr_pass rfl rfl rfl ?_
            refine tr_pass rfl rfl rfl ?_
            refine tr_pass rfl rfl rfl ?_
            refine tr_pass rfl rfl rfl ?_
            refine tr_pass rfl rfl rfl ?_
            refine tr_pass rfl rfl rfl ?_
            refine tr_pass rfl rfl rfl ?_
            refine tr_val (ov_pick (vb := undef) rfl rfl rfl rfl) rfl rfl rfl ?_
            exact tr_nil (hK11 _ _ (Sub.consE rfl (congrArg Value.bool (by exact eqT (by skip; omega))) (Sub.cons rfl (Sub.cons rfl (Sub.cons rfl (Sub.cons rfl (Sub.cons rfl (Sub.cons rfl (Sub.cons rfl Sub.nil)))))))) (H))
          · skip
            refine tr_val (ov_move rfl rfl) rfl rfl rfl ?_
            refine tr_val (ov_gtr rfl rfl rfl) rfl rfl rfl ?_
            refine tr_val (ov_move rfl rfl) rfl rfl rfl ?_
            refine tr_split (t := 42) rfl (fun s42 => ?_) (fun s42 => ?_)
            · skip
              refine tr_val (ov_move rfl rfl) rfl rfl rfl ?_
              refine tr_val (ov_nilCheck rfl rfl) rfl rfl rfl ?_
              refine tr_val (ov_fieldAddr rfl Try.underlying152 rfl (Try.sizeOf98 _) (by decide) rfl) rfl rfl rfl ?_
              refine tr_val (ov_load_blk H.get0 rfl (Try.isAgg98 _) rfl rfl rfl) rfl rfl rfl ?_
              refine tr_val (ov_indexAddrR (hA _ _ H) rfl Try.underlying98 (Try.sizeOf5 _) rfl rfl (by omega) (by omega)) rfl rfl rfl ?_
              refine tr_val (ld_U8 (hA _ _ H) rfl (Try.isAgg5 _) rfl (by omega) (by omega)) rfl rfl rfl ?_
              refine tr_val (ov_eql rfl rfl rfl) rfl rfl rfl ?_
              refine tr_val (ov_pick (vb := undef) rfl rfl rfl rfl) rfl rfl rfl ?_
              refine tr_val (ov_pick_f (va := undef) rfl rfl rfl rfl) rfl rfl rfl ?_
              exact tr_nil (hK11 _ _ (Sub.consE rfl (congrArg Value.bool (by exact eqI (by skip; omega))) (Sub.cons rfl (Sub.cons rfl (Sub.cons rfl (Sub.cons rfl (Sub.cons rfl (Sub.cons rfl (Sub.cons rfl Sub.nil)))))))) (H))
            · skip
              refine tr_pass rfl rfl rfl ?_
              refine tr_pass rfl rfl rfl ?_
              refine tr_pass rfl rfl rfl ?_
              refine tr_pass rfl rfl rfl ?_
              refine tr_pass rfl rfl rfl ?_
              refine tr_pass rfl rfl rfl ?_
              refine tr_pass rfl rfl rfl ?_
              refine tr_val (ov_pick_f (va := undef) rfl rfl rfl rfl) rfl rfl rfl ?_
              refine tr_val (ov_pick_f (va := undef) rfl rfl rfl rfl) rfl rfl rfl ?_
              exact tr_nil (hK11 _ _ (Sub.consE rfl (congrArg Value.bool (by exact eqF (by skip; omega))) (Sub.cons rfl (Sub.cons rfl (Sub.cons rfl (Sub.cons rfl (Sub.cons rfl (Sub.cons rfl (Sub.cons rfl Sub.nil)))))))) (H))
      · skip
        refine hK10 _ _ (TrC.keep [51, 7, 8, 13, 6, 0, 1, 2] ?_)
        show TrC _ _ _ _ [(51, _), (7, _), (8, _), (13, _), (6, _), (0, _), (1, _), (2, _)] _ _
        refine tr_cond rfl (fun c51 => ?_) (fun c51 => ?_)
        · skip
          refine tr_seq (fun K12 hK12 => ?_)
          -- region 8: quill.go:133
          refine tr_region ?_
          refine tr_val (ov_move rfl rfl) rfl rfl rfl ?_
          refine tr_call (qFail_c r A1 c L bad _ H.get0) rfl rfl rfl Try.call85 rfl rfl rfl ?_
          rintro _ w5 HC
          have H := H.call1 HC
          refine tr_nil (hK12 _ _ (TrC.keep [51, 7, 8, 13, 6, 0, 1, 2] ?_))
          show TrC _ _ _ _ [(51, _), (7, _), (8, _), (13, _), (6, _), (0, _), (1, _), (2, _)] _ _
          refine tr_seq (fun K13 hK13 => ?_)
          -- region 9: quill.go:134
          refine tr_region ?_
          refine tr_val (ov_assign rfl rfl) rfl rfl rfl ?_
          refine tr_val (ov_assign rfl rfl) rfl rfl rfl ?_
          refine tr_nil (hK13 _ _ (TrC.keep [7, 6, 51, 8, 13, 0, 1, 2] ?_))
          show TrC _ _ _ _ [(7, _), (6, _), (51, _), (8, _), (13, _), (0, _), (1, _), (2, _)] _ _
          refine tr_ret (post_ret2 (.inr rfl) rfl rfl rfl ?_)
          (have ho : pNum marked most L = none := (by unfold pNum; rw [if_neg (by omega), if_pos (by omega)]); rw [ho]; exact ⟨none, 0, rfl, SubR.nil A1 L, Nat.le_refl _, H⟩)
        · skip
          refine tr_skip (hK9 _ _ (TrC.keep [51, 7, 8, 13, 6, 0, 1, 2] ?_))
          show TrC _ _ _ _ [(51, _), (7, _), (8, _), (13, _), (6, _), (0, _), (1, _), (2, _)] _ _
          refine tr_seq (fun K14 hK14 => ?_)
          refine tr_seq (fun K15 hK15 => ?_)
          -- region 10: quill.go:136
          have hs := szV_rng (m := marked) hb0
          obtain ⟨M, hM⟩ : ∃ M, ((L.drop 1).take (szV marked (gt L 0)).toNat) = M := ⟨_, rfl⟩
          have hml : M.length = ((szV marked (gt L 0)) + 1).toNat - (1 : Int).toNat := by rw [← hM, List.length_take, List.length_drop]; omega
          have hRM : ∀ w, Rd w A1 1 (L.map encU8) → Rd w (if c = 1 then A1 else A1.map (·.add (1 * 1))) 1 (M.map encU8) := fun w h => by rw [← hM, List.map_take]; exact (rd_drop h hc 1).take_
          have hBM : Bytes M := by rw [← hM]; exact (hB.drop 1).take _
          refine tr_region ?_
          refine tr_val (ov_move rfl rfl) rfl rfl rfl ?_
          refine tr_val (ov_nilCheck rfl rfl) rfl rfl rfl ?_
          refine tr_val (ov_fieldAddr rfl Try.underlying152 rfl (Try.sizeOf98 _) (by decide) rfl) rfl rfl rfl ?_
          refine tr_val (ov_load_blk H.get0 rfl (Try.isAgg98 _) rfl rfl rfl) rfl rfl rfl ?_
          refine tr_val (ov_move rfl rfl) rfl rfl rfl ?_
          refine tr_val (ov_add rfl rfl rfl (w64 (by omega))) rfl rfl rfl ?_
          refine tr_val (ov_eq (ov_slice rfl Try.underlying98 (Try.sizeOf5 _) rfl rfl rfl (by omega) (by omega) (by omega)) (by rw [hml]; rfl : _ = Value.slice (if c = 1 then A1 else A1.map (·.add (1 * 1))) M.length (c - 1))) rfl rfl rfl ?_
          refine tr_val (ov_len rfl rfl Try.underlying98 rfl) rfl rfl rfl ?_
          refine tr_val (ov_move rfl rfl) rfl rfl rfl ?_
          refine tr_nil (hK15 _ _ (TrC.keep [62, 61, 60, 51, 7, 8, 13, 6, 0, 1, 2] ?_))
          show TrC _ _ _ _ [(62, _), (61, _), (60, _), (51, _), (7, _), (8, _), (13, _), (6, _), (0, _), (1, _), (2, _)] _ _
          refine tr_block ?_
          refine tr_loop_ (X := Int) [61, 60, 51, 7, 8, 13, 0, 1, 2] (fun i => [(62, .int .i64 i), (6, .int .u64 (valB (M.take i.toNat)))]) (fun i w' => 0 ≤ i ∧ i ≤ M.length ∧ SH w (blk r 152 [.slice A1 (L).length c, .bool bad]).foot [blk r 152 [.slice A1 (L).length c, .bool bad]] w') (fun i => (M.length - i).toNat) (0) (Sub.cons rfl (Sub.cons rfl (Sub.cons rfl (Sub.cons rfl (Sub.cons rfl (Sub.cons rfl (Sub.cons rfl (Sub.cons rfl (Sub.cons rfl (Sub.cons rfl (Sub.cons rfl Sub.nil))))))))))) (⟨by omega, by omega, H⟩) ?_
          rintro i w6 ⟨hi0, hi1, H⟩ K16 hK16
          show TrC _ _ _ _ [(62, _), (6, _), (61, _), (60, _), (51, _), (7, _), (8, _), (13, _), (0, _), (1, _), (2, _)] _ _
          refine tr_seq (fun K17 hK17 => ?_)
          -- region 11: quill.go:136
          refine tr_region ?_
          refine tr_val (ov_lss rfl rfl rfl) rfl rfl rfl ?_
          refine tr_nil (hK17 _ _ (TrC.keep [63, 62, 6, 61, 60, 51, 7, 8, 13, 0, 1, 2] ?_))
          show TrC _ _ _ _ [(63, _), (62, _), (6, _), (61, _), (60, _), (51, _), (7, _), (8, _), (13, _), (0, _), (1, _), (2, _)] _ _
          refine tr_seq (fun K18 hK18 => ?_)
          refine tr_cond rfl (fun c63 => ?_) (fun c63 => ?_)
          · skip
            refine tr_skip (hK18 _ _ (TrC.keep [63, 62, 6, 61, 60, 51, 7, 8, 13, 0, 1, 2] ?_))
            show TrC _ _ _ _ [(63, _), (62, _), (6, _), (61, _), (60, _), (51, _), (7, _), (8, _), (13, _), (0, _), (1, _), (2, _)] _ _
            refine tr_seq (fun K19 hK19 => ?_)
            refine tr_block ?_
            refine tr_seq (fun K20 hK20 => ?_)
            -- region 12: quill.go:136
            refine tr_region ?_
            refine tr_val (ov_indexAddrR (hRM _ (hA _ _ H)) rfl Try.underlying98 (Try.sizeOf5 _) rfl rfl (by omega) (by omega)) rfl rfl rfl ?_
            refine tr_val (ld_U8 (hRM _ (hA _ _ H)) rfl (Try.isAgg5 _) rfl (by omega) (by omega)) rfl rfl rfl ?_
            refine tr_val (ov_assign rfl rfl) rfl rfl rfl ?_
            refine tr_nil (hK20 _ _ (TrC.keep [10, 63, 62, 6, 61, 60, 51, 7, 8, 13, 0, 1, 2] ?_))
            show TrC _ _ _ _ [(10, _), (63, _), (62, _), (6, _), (61, _), (60, _), (51, _), (7, _), (8, _), (13, _), (0, _), (1, _), (2, _)] _ _
            -- region 13: quill.go:137
            have hbi := hBM _ (gt_mem (L := M) hi0 (by omega))
            have hvi := valB_small (hBM.take i.toNat) (by rw [List.length_take]; omega)
            refine tr_region ?_
            refine tr_val (ov_move rfl rfl) rfl rfl rfl ?_
            refine tr_val (ov_shl rfl rfl rfl (by omega) (shl8 hvi.1 hvi.2)) rfl rfl rfl ?_
            refine tr_val (ov_move rfl rfl) rfl rfl rfl ?_
            refine tr_val (ov_conv rfl Try.underlying5 Try.underlying28 rfl (wu64 (by omega))) rfl rfl rfl ?_
            refine tr_val (ov_or rfl rfl rfl (shl8_or hvi.1 hvi.2 hbi)) rfl rfl rfl ?_
            refine tr_val (ov_assign rfl rfl) rfl rfl rfl ?_
            refine tr_nil (hK19 _ _ (TrC.keep [6, 63, 62, 61, 60, 51, 7, 8, 13, 0, 1, 2] ?_))
            show TrC _ _ _ _ [(6, _), (63, _), (62, _), (61, _), (60, _), (51, _), (7, _), (8, _), (13, _), (0, _), (1, _), (2, _)] _ _
            -- region 14: quill.go:136
            refine tr_region ?_
            refine tr_val (ov_add rfl rfl rfl (w64 (by omega))) rfl rfl rfl ?_
            refine tr_val (ov_move rfl rfl) rfl rfl rfl ?_
            skip
            exact tr_nil (hK16 (i + 1) _ _ (⟨by omega, by omega, H⟩) (by omega) (Sub.cons rfl (Sub.consE rfl (congrArg (Value.int .u64) (valB_take hBM hi0 (by omega)).symm) (Sub.cons rfl (Sub.cons rfl (Sub.cons rfl (Sub.cons rfl (Sub.cons rfl (Sub.cons rfl (Sub.cons rfl (Sub.cons rfl (Sub.cons rfl Sub.nil))))))))))))
          · skip
            refine tr_exit (hK14 _ _ (TrC.keep [63, 62, 6, 61, 60, 51, 7, 8, 13, 0, 1, 2] ?_))
            show TrC _ _ _ _ [(63, _), (62, _), (6, _), (61, _), (60, _), (51, _), (7, _), (8, _), (13, _), (0, _), (1, _), (2, _)] _ _
            refine tr_seq (fun K21 hK21 => ?_)
            refine tr_seq (fun K22 hK22 => ?_)
            -- region 15: quill.go:139
            have e : M.take i.toNat = M := List.take_of_length_le (by omega)
            rw [e]
            refine tr_region ?_
            refine tr_val (ov_move rfl rfl) rfl rfl rfl ?_
            refine tr_val (ov_move rfl rfl) rfl rfl rfl ?_
            refine tr_val (ov_gtr rfl rfl rfl) rfl rfl rfl ?_
            refine tr_nil (hK22 _ _ (TrC.keep [74, 63, 62, 6, 61, 60, 51, 7, 8, 13, 0, 1, 2] ?_))
            show TrC _ _ _ _ [(74, _), (63, _), (62, _), (6, _), (61, _), (60, _), (51, _), (7, _), (8, _), (13, _), (0, _), (1, _), (2, _)] _ _
            refine tr_cond rfl (fun c74 => ?_) (fun c74 => ?_)
            · skip
              refine tr_seq (fun K23 hK23 => ?_)
              -- region 16: quill.go:140
              refine tr_region ?_
              refine tr_val (ov_move rfl rfl) rfl rfl rfl ?_
              refine tr_call (qFail_c r A1 c L bad _ H.get0) rfl rfl rfl Try.call85 rfl rfl rfl ?_
              rintro _ w7 HC
              have H := H.call1 HC
              refine tr_nil (hK23 _ _ (TrC.keep [74, 63, 62, 6, 61, 60, 51, 7, 8, 13, 0, 1, 2] ?_))
              show TrC _ _ _ _ [(74, _), (63, _), (62, _), (6, _), (61, _), (60, _), (51, _), (7, _), (8, _), (13, _), (0, _), (1, _), (2, _)] _ _
              refine tr_seq (fun K24 hK24 => ?_)
              -- region 17: quill.go:141
              refine tr_region ?_
              refine tr_val (ov_assign rfl rfl) rfl rfl rfl ?_
              refine tr_val (ov_assign rfl rfl) rfl rfl rfl ?_
              refine tr_nil (hK24 _ _ (TrC.keep [7, 6, 74, 63, 62, 61, 60, 51, 8, 13, 0, 1, 2] ?_))
              show TrC _ _ _ _ [(7, _), (6, _), (74, _), (63, _), (62, _), (61, _), (60, _), (51, _), (8, _), (13, _), (0, _), (1, _), (2, _)] _ _
              refine tr_ret (post_ret2 (.inr rfl) rfl rfl rfl ?_)
              (have ho : pNum marked most L = none := (by unfold pNum; rw [if_neg (by omega), if_neg (by omega), hM, if_pos (by omega)]); rw [ho]; exact ⟨none, 0, rfl, SubR.nil A1 L, Nat.le_refl _, H⟩)
            · skip
              refine tr_skip (hK21 _ _ (TrC.keep [74, 63, 62, 6, 61, 60, 51, 7, 8, 13, 0, 1, 2] ?_))
              show TrC _ _ _ _ [(74, _), (63, _), (62, _), (6, _), (61, _), (60, _), (51, _), (7, _), (8, _), (13, _), (0, _), (1, _), (2, _)] _ _
              refine tr_seq (fun K25 hK25 => ?_)
              -- region 18: quill.go:143
              refine tr_region ?_
              refine tr_val (ov_move rfl rfl) rfl rfl rfl ?_
              refine tr_val (ov_move rfl rfl) rfl rfl rfl ?_
              refine tr_val (ov_nilCheck rfl rfl) rfl rfl rfl ?_
              refine tr_val (ov_fieldAddr rfl Try.underlying152 rfl (Try.sizeOf98 _) (by decide) rfl) rfl rfl rfl ?_
              refine tr_val (ov_load_blk H.get0 rfl (Try.isAgg98 _) rfl rfl rfl) rfl rfl rfl ?_
              refine tr_val (ov_move rfl rfl) rfl rfl rfl ?_
              refine tr_val (ov_add rfl rfl rfl (w64 (by omega))) rfl rfl rfl ?_
              refine tr_val (ov_slice_lo rfl Try.underlying98 (Try.sizeOf5 _) rfl rfl (by omega) (by omega)) rfl rfl rfl ?_
              refine tr_val (ov_nilCheck rfl rfl) rfl rfl rfl ?_
              refine tr_val (ov_fieldAddr rfl Try.underlying152 rfl (Try.sizeOf98 _) (by decide) rfl) rfl rfl rfl ?_
              (refine tr_store H.get0 rfl (Try.sizeOf98 _) rfl rfl rfl rfl rfl rfl rfl ?_; intro w8 U; have H := H.upd0 U; clear U)
              try simp only [List.set_cons_zero, List.set_cons_succ, Nat.zero_add] at H
              refine tr_nil (hK25 _ _ (TrC.keep [74, 63, 62, 6, 61, 60, 51, 7, 8, 13, 0, 1, 2] ?_))
              show TrC _ _ _ _ [(74, _), (63, _), (62, _), (6, _), (61, _), (60, _), (51, _), (7, _), (8, _), (13, _), (0, _), (1, _), (2, _)] _ _
              refine tr_seq (fun K26 hK26 => ?_)
              -- region 19: quill.go:144
              refine tr_region ?_
              refine tr_val (ov_move rfl rfl) rfl rfl rfl ?_
              refine tr_val (ov_move rfl rfl) rfl rfl rfl ?_
              refine tr_val (ov_assign rfl rfl) rfl rfl rfl ?_
              refine tr_val (ov_assign rfl rfl) rfl rfl rfl ?_
              refine tr_nil (hK26 _ _ (TrC.keep [7, 6, 74, 63, 62, 61, 60, 51, 8, 13, 0, 1, 2] ?_))
              show TrC _ _ _ _ [(7, _), (6, _), (74, _), (63, _), (62, _), (61, _), (60, _), (51, _), (8, _), (13, _), (0, _), (1, _), (2, _)] _ _
              refine tr_ret (post_ret2 (.inr rfl) rfl rfl rfl ?_)
              (have ho : pNum marked most L = some (valB M, marked && decide (128 ≤ gt L 0), L.drop ((szV marked (gt L 0)) + 1).toNat) := (by unfold pNum; rw [if_neg (by omega), if_neg (by omega), hM, if_neg (by omega)]); rw [ho]; exact ⟨_, c - ((szV marked (gt L 0)) + 1).toNat, rfl, SubR.drop hc ((szV marked (gt L 0)) + 1).toNat, (by show (L.drop _).length ≤ _; rw [List.length_drop]; omega), (by show SH _ _ [blk r _ [.slice _ (L.drop _).length _, .bool bad]] _; rw [List.length_drop]; exact H)⟩)

def iVal (o : Option (Int × Bool × List Int)) : Int := if nMrk o then -1 - nVal o else nVal o
theorem pNum_rng {m : Bool} {most : Int} {L : List Int} (hB : Bytes L) (hm : 0 ≤ most) : 0 ≤ nVal (pNum m most L) ∧ nVal (pNum m most L) ≤ most := by
  unfold pNum
  split
  · exact ⟨Int.le_refl _, hm⟩
  · split
    · exact ⟨Int.le_refl _, hm⟩
    · split
      · exact ⟨Int.le_refl _, hm⟩
      · rename_i h1 h2 h3
        exact ⟨(valB_rng _ ((hB.drop 1).take _)).1, Int.not_lt.mp h3⟩
theorem nLst_bytes {m : Bool} {most : Int} {L : List Int} (hB : Bytes L) : Bytes (nLst (pNum m most L)) := by
  unfold pNum
  split
  · intro x hx; cases hx
  · split
    · intro x hx; cases hx
    · split
      · intro x hx; cases hx
      · exact hB.drop _
theorem nLst_le {m : Bool} {most : Int} {L : List Int} : (nLst (pNum m most L)).length ≤ L.length := by
  unfold pNum
  split
  · exact Nat.zero_le _
  · split
    · exact Nat.zero_le _
    · split
      · exact Nat.zero_le _
      · show (L.drop _).length ≤ _; rw [List.length_drop]; omega

/-! (*curfew/quill.Reader).Num -/
set_option maxRecDepth 20000 in
theorem qNum_c (r : Nat) (A1 : Option Addr) (c : Nat) (L : List Int) (bad : Bool) (w : World) (hA : ∀ (rs : List Res) (w' : World), SH w (blk r 152 [.slice A1 (L).length c, .bool bad]).foot rs w' → Rd w' A1 1 (L.map encU8)) (hc : L.length ≤ c) (hB : Bytes L) (hl : L.length ≤ 65536) (hO : (blk r 152 [.slice A1 (L).length c, .bool bad]).holds w) (most : Int) : Does Try.prog 84 #[.pointer (some ⟨r, 0, none⟩), .int .u64 most] w (fun v w' => ∃ A' c', v = .int .u64 (nVal (pNum false most L)) ∧ SubR A1 L A' (nLst (pNum false most L)) ∧ (nLst (pNum false most L)).length ≤ c' ∧ SH w (blk r 152 [.slice A1 (L).length c, .bool bad]).foot [blk r 152 [.slice A' (nLst (pNum false most L)).length c', .bool (nBad bad (pNum false most L))]] w') := by
  refine does_enter2 Try.func84 rfl Try.ntmps84 rfl ?_
  have H := SH.own1 hO
  refine tr_seq (fun K1 hK1 => ?_)
  -- region 0: quill.go:148
  refine tr_region ?_
  refine tr_val (ov_assign rfl rfl) rfl rfl rfl ?_
  refine tr_nil (hK1 _ _ (TrC.keep [4, 0, 1] ?_))
  show TrC _ _ _ _ [(4, _), (0, _), (1, _)] _ _
  refine tr_seq (fun K2 hK2 => ?_)
  -- region 1: quill.go:149
  refine tr_region ?_
  refine tr_val (ov_move rfl rfl) rfl rfl rfl ?_
  refine tr_val (ov_move rfl rfl) rfl rfl rfl ?_
  refine tr_call (qNumber_c r A1 c L bad _ (fun _ _ C => hA _ _ (H.call1e C)) hc hB hl H.get0 most false) rfl rfl rfl Try.call107 rfl rfl rfl ?_
  rintro _ w1 ⟨A2, c2, rfl, hs, hc2, HC⟩
  have H := H.call1 HC
  refine tr_val (ov_move rfl rfl) rfl rfl rfl ?_
  refine tr_val (ov_extract rfl rfl rfl) rfl rfl rfl ?_
  refine tr_val (ov_extract rfl rfl rfl) rfl rfl rfl ?_
  refine tr_val (ov_assign rfl rfl) rfl rfl rfl ?_
  refine tr_val (ov_assign rfl rfl) rfl rfl rfl ?_
  refine tr_nil (hK2 _ _ (TrC.keep [5, 4] ?_))
  show TrC _ _ _ _ [(5, _), (4, _)] _ _
  refine tr_seq (fun K3 hK3 => ?_)
  -- region 2: quill.go:150
  refine tr_region ?_
  refine tr_val (ov_move rfl rfl) rfl rfl rfl ?_
  refine tr_val (ov_assign rfl rfl) rfl rfl rfl ?_
  refine tr_nil (hK3 _ _ (TrC.keep [4] ?_))
  show TrC _ _ _ _ [(4, _)] _ _
  refine tr_ret (post_ret1 (.inr rfl) rfl rfl ?_)
  exact ⟨A2, c2, rfl, hs, hc2, H⟩

/-! (*curfew/quill.Reader).Int -/
set_option maxRecDepth 20000 in
theorem qInt_c (r : Nat) (A1 : Option Addr) (c : Nat) (L : List Int) (bad : Bool) (w : World) (hA : ∀ (rs : List Res) (w' : World), SH w (blk r 152 [.slice A1 (L).length c, .bool bad]).foot rs w' → Rd w' A1 1 (L.map encU8)) (hc : L.length ≤ c) (hB : Bytes L) (hl : L.length ≤ 65536) (hO : (blk r 152 [.slice A1 (L).length c, .bool bad]).holds w) : Does Try.prog 83 #[.pointer (some ⟨r, 0, none⟩)] w (fun v w' => ∃ A' c', v = .int .i64 (iVal (pNum true 9223372036854775807 L)) ∧ SubR A1 L A' (nLst (pNum true 9223372036854775807 L)) ∧ (nLst (pNum true 9223372036854775807 L)).length ≤ c' ∧ SH w (blk r 152 [.slice A1 (L).length c, .bool bad]).foot [blk r 152 [.slice A' (nLst (pNum true 9223372036854775807 L)).length c', .bool (nBad bad (pNum true 9223372036854775807 L))]] w') := by
  refine does_enter1 Try.func83 rfl Try.ntmps83 rfl ?_
  have H := SH.own1 hO
  have hr := pNum_rng (m := true) (most := 9223372036854775807) hB (by decide)
  refine tr_seq (fun K1 hK1 => ?_)
  -- region 0: quill.go:154
  refine tr_region ?_
  refine tr_val (ov_assign rfl rfl) rfl rfl rfl ?_
  refine tr_nil (hK1 _ _ (TrC.keep [2, 0] ?_))
  show TrC _ _ _ _ [(2, _), (0, _)] _ _
  refine tr_seq (fun K2 hK2 => ?_)
  -- region 1: quill.go:155
  refine tr_region ?_
  refine tr_val (ov_move rfl rfl) rfl rfl rfl ?_
  refine tr_call (qNumber_c r A1 c L bad _ (fun _ _ C => hA _ _ (H.call1e C)) hc hB hl H.get0 9223372036854775807 true) rfl rfl rfl Try.call107 rfl rfl rfl ?_
  rintro _ w1 ⟨A2, c2, rfl, hs, hc2, HC⟩
  have H := H.call1 HC
  refine tr_val (ov_move rfl rfl) rfl rfl rfl ?_
  refine tr_val (ov_extract rfl rfl rfl) rfl rfl rfl ?_
  refine tr_val (ov_extract rfl rfl rfl) rfl rfl rfl ?_
  refine tr_val (ov_assign rfl rfl) rfl rfl rfl ?_
  refine tr_val (ov_assign rfl rfl) rfl rfl rfl ?_
  refine tr_nil (hK2 _ _ (TrC.keep [4, 3, 2] ?_))
  show TrC _ _ _ _ [(4, _), (3, _), (2, _)] _ _
  refine tr_seq (fun K3 hK3 => ?_)
  refine tr_seq (fun K4 hK4 => ?_)
  -- region 2: quill.go:156
  refine tr_region ?_
  refine tr_val (ov_move rfl rfl) rfl rfl rfl ?_
  refine tr_nil (hK4 _ _ (TrC.keep [10, 3, 2] ?_))
  show TrC _ _ _ _ [(10, _), (3, _), (2, _)] _ _
  refine tr_condb rfl (fun c10 => ?_) (fun c10 => ?_)
  · skip
    refine tr_seq (fun K5 hK5 => ?_)
    -- region 3: quill.go:157
    refine tr_region ?_
    refine tr_val (ov_move rfl rfl) rfl rfl rfl ?_
    refine tr_val (ov_conv rfl Try.underlying28 Try.underlying2 rfl (w64 (by omega))) rfl rfl rfl ?_
    refine tr_val (ov_sub rfl rfl rfl (w64 (by omega))) rfl rfl rfl ?_
    refine tr_val (ov_assign rfl rfl) rfl rfl rfl ?_
    refine tr_nil (hK5 _ _ (TrC.keep [2, 10, 3] ?_))
    show TrC _ _ _ _ [(2, _), (10, _), (3, _)] _ _
    refine tr_ret (post_ret1 (.inr rfl) rfl rfl ?_)
    unfold iVal; rw [if_pos c10]; exact ⟨A2, c2, rfl, hs, hc2, H⟩
  · skip
    refine tr_skip (hK3 _ _ (TrC.keep [10, 3, 2] ?_))
    show TrC _ _ _ _ [(10, _), (3, _), (2, _)] _ _
    refine tr_seq (fun K6 hK6 => ?_)
    -- region 4: quill.go:159
    refine tr_region ?_
    refine tr_val (ov_move rfl rfl) rfl rfl rfl ?_
    refine tr_val (ov_conv rfl Try.underlying28 Try.underlying2 rfl (w64 (by omega))) rfl rfl rfl ?_
    refine tr_val (ov_assign rfl rfl) rfl rfl rfl ?_
    refine tr_nil (hK6 _ _ (TrC.keep [2, 10, 3] ?_))
    show TrC _ _ _ _ [(2, _), (10, _), (3, _)] _ _
    refine tr_ret (post_ret1 (.inr rfl) rfl rfl ?_)
    unfold iVal; rw [c10]; exact ⟨A2, c2, rfl, hs, hc2, H⟩

/-! curfew/quill.Open -/
set_option maxRecDepth 20000 in
theorem qOpen_c (A1 : Option Addr) (c : Nat) (L : List Int) (w : World) : Does Try.prog 46 #[.slice A1 L.length c] w (fun v w' => ∃ r, v = .pointer (some ⟨r, 0, none⟩) ∧ w.heap.size ≤ r ∧ SH w noBlocks [blk r 152 [.slice A1 (L).length c, .bool false]] w') := by
  refine does_enter1 Try.func46 rfl Try.ntmps46 rfl ?_
  have H := SH.start w noBlocks
  refine tr_seq (fun K1 hK1 => ?_)
  -- region 0: quill.go:102
  refine tr_region ?_
  refine tr_val (ov_assign rfl rfl) rfl rfl rfl ?_
  refine tr_nil (hK1 _ _ (TrC.keep [2, 0] ?_))
  show TrC _ _ _ _ [(2, _), (0, _)] _ _
  refine tr_seq (fun K2 hK2 => ?_)
  -- region 1: quill.go:102
  refine tr_region ?_
  refine tr_val (ov_move rfl rfl) rfl rfl rfl ?_
  refine tr_val (ov_build rfl (fun ρ k => bs1 k rfl) (bld152_0 _ _ _ _)) rfl rfl rfl ?_
  refine tr_box H rfl rfl rfl rfl rfl rfl ?_
  intro r w1 hr H
  refine tr_val (ov_assign rfl rfl) rfl rfl rfl ?_
  refine tr_nil (hK2 _ _ (TrC.keep [2] ?_))
  show TrC _ _ _ _ [(2, _)] _ _
  refine tr_ret (post_ret1 (.inr rfl) rfl rfl ?_)
  exact ⟨r, rfl, hr, H⟩

def fC (L : List Int) : Int := if L.length = 0 then 0 else gt L 0
def rNum (n : Int) (L : List Int) : Option (Int × List Int) := if 8 < n ∨ (L.length : Int) < n ∨ (0 < n ∧ gt L 0 = 0) then none else some (valB (L.take n.toNat), L.drop n.toNat)
def rVal (o : Option (Int × List Int)) : Int := match o with | none => 0 | some x => x.1
def rLst (L : List Int) (o : Option (Int × List Int)) : List Int := match o with | none => L | some x => x.2
theorem gt_drop1 {L : List Int} (h : 1 < L.length) : gt (L.drop 1) 0 = gt L 1 := by
  rw [gt_eq (by omega) (by rw [List.length_drop]; omega), gt_eq (by omega) (by omega)]
  simp
theorem pNum_eq {m : Bool} {most : Int} {L : List Int} (h : L.length ≠ 0) (hs : 0 ≤ szV m (gt L 0)) : pNum m most L = match rNum (szV m (gt L 0)) (L.drop 1) with | none => none | some x => if most < x.1 then none else some (x.1, m && decide (128 ≤ gt L 0), x.2) := by
  unfold pNum rNum
  rw [if_neg h]
  have e1 : (8 < szV m (gt L 0) ∨ (L.length : Int) ≤ szV m (gt L 0) ∨ (0 < szV m (gt L 0) ∧ gt L 1 = 0)) ↔ (8 < szV m (gt L 0) ∨ ((L.drop 1).length : Int) < szV m (gt L 0) ∨ (0 < szV m (gt L 0) ∧ gt (L.drop 1) 0 = 0)) := by
    rw [List.length_drop]
    by_cases q : 1 < L.length
    · rw [gt_drop1 q]; omega
    · omega
  by_cases q : 8 < szV m (gt L 0) ∨ (L.length : Int) ≤ szV m (gt L 0) ∨ (0 < szV m (gt L 0) ∧ gt L 1 = 0)
  · rw [if_pos q, if_pos (e1.mp q)]
  · rw [if_neg q, if_neg (fun z => q (e1.mpr z))]
    have e2 : (L.drop 1).drop (szV m (gt L 0)).toNat = L.drop (szV m (gt L 0) + 1).toNat := by rw [List.drop_drop]; congr 1; omega
    simp only [e2]

/-! (*curfew/curfewref01.Reader).first -/
set_option maxRecDepth 20000 in
theorem rFirst_c (r : Nat) (A1 : Option Addr) (c : Nat) (L : List Int) (bad : Bool) (w : World) (hA : ∀ (rs : List Res) (w' : World), SH w (blk r 112 [.slice A1 (L).length c, .bool bad]).foot rs w' → Rd w' A1 1 (L.map encU8)) (hc : L.length ≤ c) (hB : Bytes L) (hl : L.length ≤ 65536) (hO : (blk r 112 [.slice A1 (L).length c, .bool bad]).holds w) : Does Try.prog 108 #[.pointer (some ⟨r, 0, none⟩)] w (fun v w' => ∃ A' c', v = .tuple #[.int .u8 (fC L), .bool (decide (0 < L.length))] ∧ SubR A1 L A' (L.drop 1) ∧ (L.drop 1).length ≤ c' ∧ SH w (blk r 112 [.slice A1 (L).length c, .bool bad]).foot [blk r 112 [.slice A' (L.drop 1).length c', .bool bad]] w') := by
  refine does_enter1 Try.func108 rfl Try.ntmps108 rfl ?_
  have H := SH.own1 hO
  refine tr_seq (fun K1 hK1 => ?_)
  -- region 0: ref.go:61
  refine tr_region ?_
  refine tr_val (ov_assign rfl rfl) rfl rfl rfl ?_
  refine tr_val (ov_assign rfl rfl) rfl rfl rfl ?_
  refine tr_nil (hK1 _ _ (TrC.keep [3, 2, 0] ?_))
  show TrC _ _ _ _ [(3, _), (2, _), (0, _)] _ _
  refine tr_seq (fun K2 hK2 => ?_)
  refine tr_seq (fun K3 hK3 => ?_)
  -- region 1: ref.go:62
  refine tr_region ?_
  refine tr_val (ov_move rfl rfl) rfl rfl rfl ?_
  refine tr_val (ov_nilCheck rfl rfl) rfl rfl rfl ?_
  refine tr_val (ov_fieldAddr rfl Try.underlying112 rfl (Try.sizeOf98 _) (by decide) rfl) rfl rfl rfl ?_
  refine tr_val (ov_load_blk H.get0 rfl (Try.isAgg98 _) rfl rfl rfl) rfl rfl rfl ?_
  refine tr_val (ov_len rfl rfl Try.underlying98 rfl) rfl rfl rfl ?_
  refine tr_val (ov_eql rfl rfl rfl) rfl rfl rfl ?_
  refine tr_nil (hK3 _ _ (TrC.keep [10, 3, 2, 0] ?_))
  show TrC _ _ _ _ [(10, _), (3, _), (2, _), (0, _)] _ _
  refine tr_cond rfl (fun c10 => ?_) (fun c10 => ?_)
  · skip
    refine tr_seq (fun K4 hK4 => ?_)
    -- region 2: ref.go:63
    refine tr_region ?_
    refine tr_val (ov_assign rfl rfl) rfl rfl rfl ?_
    refine tr_val (ov_assign rfl rfl) rfl rfl rfl ?_
    refine tr_nil (hK4 _ _ (TrC.keep [3, 2, 10, 0] ?_))
    show TrC _ _ _ _ [(3, _), (2, _), (10, _), (0, _)] _ _
    refine tr_ret (post_ret2 (.inr rfl) rfl rfl rfl ?_)
    have hL : L = [] := List.eq_nil_of_length_eq_zero (by omega)
    subst hL
    exact ⟨A1, c, rfl, SubR.refl _ _, hc, H⟩
  · skip
    refine tr_skip (hK2 _ _ (TrC.keep [10, 3, 2, 0] ?_))
    show TrC _ _ _ _ [(10, _), (3, _), (2, _), (0, _)] _ _
    refine tr_seq (fun K5 hK5 => ?_)
    -- region 3: ref.go:65
    refine tr_region ?_
    refine tr_val (ov_move rfl rfl) rfl rfl rfl ?_
    refine tr_val (ov_nilCheck rfl rfl) rfl rfl rfl ?_
    refine tr_val (ov_fieldAddr rfl Try.underlying112 rfl (Try.sizeOf98 _) (by decide) rfl) rfl rfl rfl ?_
    refine tr_val (ov_load_blk H.get0 rfl (Try.isAgg98 _) rfl rfl rfl) rfl rfl rfl ?_
    refine tr_val (ov_indexAddrR (hA _ _ H) rfl Try.underlying98 (Try.sizeOf5 _) rfl rfl (by omega) (by omega)) rfl rfl rfl ?_
    refine tr_val (ld_U8 (hA _ _ H) rfl (Try.isAgg5 _) rfl (by omega) (by omega)) rfl rfl rfl ?_
    refine tr_val (ov_assign rfl rfl) rfl rfl rfl ?_
    refine tr_nil (hK5 _ _ (TrC.keep [4, 10, 3, 2, 0] ?_))
    show TrC _ _ _ _ [(4, _), (10, _), (3, _), (2, _), (0, _)] _ _
    refine tr_seq (fun K6 hK6 => ?_)
    -- region 4: ref.go:66
    refine tr_region ?_
    refine tr_val (ov_move rfl rfl) rfl rfl rfl ?_
    refine tr_val (ov_move rfl rfl) rfl rfl rfl ?_
    refine tr_val (ov_nilCheck rfl rfl) rfl rfl rfl ?_
    refine tr_val (ov_fieldAddr rfl Try.underlying112 rfl (Try.sizeOf98 _) (by decide) rfl) rfl rfl rfl ?_
    refine tr_val (ov_load_blk H.get0 rfl (Try.isAgg98 _) rfl rfl rfl) rfl rfl rfl ?_
    refine tr_val (ov_slice_lo rfl Try.underlying98 (Try.sizeOf5 _) rfl rfl (by omega) (by omega)) rfl rfl rfl ?_
    refine tr_val (ov_nilCheck rfl rfl) rfl rfl rfl ?_
    refine tr_val (ov_fieldAddr rfl Try.underlying112 rfl (Try.sizeOf98 _) (by decide) rfl) rfl rfl rfl ?_
    (refine tr_store H.get0 rfl (Try.sizeOf98 _) rfl rfl rfl rfl rfl rfl rfl ?_; intro w1 U; have H := H.upd0 U; clear U)
    try simp only [List.set_cons_zero, List.set_cons_succ, Nat.zero_add] at H
    refine tr_nil (hK6 _ _ (TrC.keep [4, 10, 3, 2, 0] ?_))
    show TrC _ _ _ _ [(4, _), (10, _), (3, _), (2, _), (0, _)] _ _
    refine tr_seq (fun K7 hK7 => ?_)
    -- region 5: ref.go:67
    refine tr_region ?_
    refine tr_val (ov_move rfl rfl) rfl rfl rfl ?_
    refine tr_val (ov_assign rfl rfl) rfl rfl rfl ?_
    refine tr_val (ov_assign rfl rfl) rfl rfl rfl ?_
    refine tr_nil (hK7 _ _ (TrC.keep [3, 2, 10, 0] ?_))
    show TrC _ _ _ _ [(3, _), (2, _), (10, _), (0, _)] _ _
    refine tr_ret (post_ret2 (.inr rfl) rfl rfl rfl ?_)
    have e : decide (0 < L.length) = true := decide_eq_true (by omega)
    have e2 : fC L = gt L 0 := by unfold fC; rw [if_neg (by omega)]
    rw [e, e2]
    exact ⟨_, c - 1, rfl, SubR.drop hc 1, (by rw [List.length_drop]; omega), (by rw [List.length_drop]; exact H)⟩

/-! (*curfew/curfewref01.Reader).number -/
set_option maxRecDepth 20000 in
theorem rNumber_c (r : Nat) (A1 : Option Addr) (c : Nat) (L : List Int) (bad : Bool) (w : World) (hA : ∀ (rs : List Res) (w' : World), SH w (blk r 112 [.slice A1 (L).length c, .bool bad]).foot rs w' → Rd w' A1 1 (L.map encU8)) (hc : L.length ≤ c) (hB : Bytes L) (hl : L.length ≤ 65536) (hO : (blk r 112 [.slice A1 (L).length c, .bool bad]).holds w) (n : Int) (hn : 0 ≤ n) : Does Try.prog 109 #[.pointer (some ⟨r, 0, none⟩), .int .i64 n] w (fun v w' => ∃ A' c', v = .tuple #[.int .u64 (rVal (rNum n L)), .bool (rNum n L).isSome] ∧ SubR A1 L A' (rLst L (rNum n L)) ∧ (rLst L (rNum n L)).length ≤ c' ∧ SH w (blk r 112 [.slice A1 (L).length c, .bool bad]).foot [blk r 112 [.slice A' (rLst L (rNum n L)).length c', .bool bad]] w') := by
  refine does_enter2 Try.func109 rfl Try.ntmps109 rfl ?_
  have H := SH.own1 hO
  refine tr_seq (fun K1 hK1 => ?_)
  -- region 0: ref.go:48
  refine tr_region ?_
  refine tr_val (ov_assign rfl rfl) rfl rfl rfl ?_
  refine tr_val (ov_assign rfl rfl) rfl rfl rfl ?_
  refine tr_nil (hK1 _ _ (TrC.keep [5, 4, 0, 1] ?_))
  show TrC _ _ _ _ [(5, _), (4, _), (0, _), (1, _)] _ _
  refine tr_seq (fun K2 hK2 => ?_)
  refine tr_seq (fun K3 hK3 => ?_)
  -- region 1: ref.go:49
  refine tr_cut [5, 4, 0, 1] [(31, .bool (decide (8 < n ∨ (L.length : Int) < n ∨ (0 < n ∧ gt L 0 = 0))))] (fun w' => SH w (blk r 112 [.slice A1 (L).length c, .bool bad]).foot [blk r 112 [.slice A1 (L).length c, .bool bad]] w') (fun K4 hK4 => ?_) (fun w1 H => ?_)
  · skip
    refine tr_val (ov_move rfl rfl) rfl rfl rfl ?_
    refine tr_val (ov_gtr rfl rfl rfl) rfl rfl rfl ?_
    refine tr_val (ov_move rfl rfl) rfl rfl rfl ?_
    refine tr_split (t := 10) rfl (fun s10 => ?_) (fun s10 => ?_)
    · skip
      refine tr_pass rfl rfl rfl ?_
      refine tr_pass rfl rfl rfl ?_
      refine tr_pass rfl rfl rfl ?_
      refine tr_pass rfl rfl rfl ?_
      refine tr_pass rfl rfl rfl ?_
      refine tr_pass rfl rfl rfl ?_
      refine tr_pass rfl rfl rfl ?_
      refine tr_val (ov_pick (vb := undef) rfl rfl rfl rfl) rfl rfl rfl ?_
      refine tr_val (ov_move rfl rfl) rfl rfl rfl ?_
      refine tr_pass rfl rfl rfl ?_
      refine tr_pass rfl rfl rfl ?_
      refine tr_pass rfl rfl rfl ?_
      refine tr_pass rfl rfl rfl ?_
      refine tr_pass rfl rfl rfl ?_
      refine tr_pass rfl rfl rfl ?_
      refine tr_pass rfl rfl rfl ?_
      refine tr_pass rfl rfl rfl ?_
      refine tr_pass rfl rfl rfl ?_
      refine tr_pass rfl rfl rfl ?_
      refine tr_pass rfl rfl rfl ?_
      refine tr_val (ov_pick (vb := undef) rfl rfl rfl rfl) rfl rfl rfl ?_
      exact tr_nil (hK4 _ _ (Sub.consE rfl (congrArg Value.bool (by exact eqT (by skip; omega))) (Sub.cons rfl (Sub.cons rfl (Sub.cons rfl (Sub.cons rfl Sub.nil))))) (H))
    · skip
      refine tr_val (ov_move rfl rfl) rfl rfl rfl ?_
      refine tr_val (ov_move rfl rfl) rfl rfl rfl ?_
      refine tr_val (ov_nilCheck rfl rfl) rfl rfl rfl ?_
      refine tr_val (ov_fieldAddr rfl Try.underlying112 rfl (Try.sizeOf98 _) (by decide) rfl) rfl rfl rfl ?_
      refine tr_val (ov_load_blk H.get0 rfl (Try.isAgg98 _) rfl rfl rfl) rfl rfl rfl ?_
      refine tr_val (ov_len rfl rfl Try.underlying98 rfl) rfl rfl rfl ?_
      refine tr_val (ov_gtr rfl rfl rfl) rfl rfl rfl ?_
      refine tr_val (ov_pick_f (va := undef) rfl rfl rfl rfl) rfl rfl rfl ?_
      refine tr_val (ov_move rfl rfl) rfl rfl rfl ?_
      refine tr_split (t := 19) rfl (fun s19 => ?_) (fun s19 => ?_)
      · skip
        refine tr_pass rfl rfl rfl ?_
        refine tr_pass rfl rfl rfl ?_
        refine tr_pass rfl rfl rfl ?_
        refine tr_pass rfl rfl rfl ?_
        refine tr_pass rfl rfl rfl ?_
        refine tr_pass rfl rfl rfl ?_
        refine tr_pass rfl rfl rfl ?_
        refine tr_pass rfl rfl rfl ?_
        refine tr_pass rfl rfl rfl ?_
        refine tr_pass rfl rfl rfl ?_
        refine tr_pass rfl rfl rfl ?_
        refine tr_val (ov_pick (vb := undef) rfl rfl rfl rfl) rfl rfl rfl ?_
        exact tr_nil (hK4 _ _ (Sub.consE rfl (congrArg Value.bool (by exact eqT (by skip; omega))) (Sub.cons rfl (Sub.cons rfl (Sub.cons rfl (Sub.cons rfl Sub.nil))))) (H))
      · skip
        refine tr_val (ov_move rfl rfl) rfl rfl rfl ?_
        refine tr_val (ov_gtr rfl rfl rfl) rfl rfl rfl ?_
        refine tr_val (ov_move rfl rfl) rfl rfl rfl ?_
        refine tr_split (t := 22) rfl (fun s22 => ?_) (fun s22 => ?_)
        · skip
          refine tr_val (ov_move rfl rfl) rfl rfl rfl ?_
          refine tr_val (ov_nilCheck rfl rfl) rfl rfl rfl ?_
          refine tr_val (ov_fieldAddr rfl Try.underlying112 rfl (Try.sizeOf98 _) (by decide) rfl) rfl rfl rfl ?_
          refine tr_val (ov_load_blk H.get0 rfl (Try.isAgg98 _) rfl rfl rfl) rfl rfl rfl ?_
          refine tr_val (ov_indexAddrR (hA _ _ H) rfl Try.underlying98 (Try.sizeOf5 _) rfl rfl (by omega) (by omega)) rfl rfl rfl ?_
          refine tr_val (ld_U8 (hA _ _ H) rfl (Try.isAgg5 _) rfl (by omega) (by omega)) rfl rfl rfl ?_
          refine tr_val (ov_eql rfl rfl rfl) rfl rfl rfl ?_
          refine tr_val (ov_pick (vb := undef) rfl rfl rfl rfl) rfl rfl rfl ?_
          refine tr_val (ov_pick_f (va := undef) rfl rfl rfl rfl) rfl rfl rfl ?_
          exact tr_nil (hK4 _ _ (Sub.consE rfl (congrArg Value.bool (by exact eqI (by skip; omega))) (Sub.cons rfl (Sub.cons rfl (Sub.cons rfl (Sub.cons rfl Sub.nil))))) (H))
        · skip
          refine tr_pass rfl rfl rfl ?_
          refine tr_pass rfl rfl rfl ?_
          refine tr_pass rfl rfl rfl ?_
          refine tr_pass rfl rfl rfl ?_
          refine tr_pass rfl rfl rfl ?_
          refine tr_pass rfl rfl rfl ?_
          refine tr_pass rfl rfl rfl ?_
          refine tr_val (ov_pick_f (va := undef) rfl rfl rfl rfl) rfl rfl rfl ?_
          refine tr_val (ov_pick_f (va := undef) rfl rfl rfl rfl) rfl rfl rfl ?_
          exact tr_nil (hK4 _ _ (Sub.consE rfl (congrArg Value.bool (by exact eqF (by skip; omega))) (Sub.cons rfl (Sub.cons rfl (Sub.cons rfl (Sub.cons rfl Sub.nil))))) (H))
  · skip
    refine hK3 _ _ (TrC.keep [31, 5, 4, 0, 1] ?_)
    show TrC _ _ _ _ [(31, _), (5, _), (4, _), (0, _), (1, _)] _ _
    refine tr_cond rfl (fun c31 => ?_) (fun c31 => ?_)
    · skip
      refine tr_seq (fun K5 hK5 => ?_)
      -- region 2: ref.go:50
      refine tr_region ?_
      refine tr_val (ov_assign rfl rfl) rfl rfl rfl ?_
      refine tr_val (ov_assign rfl rfl) rfl rfl rfl ?_
      refine tr_nil (hK5 _ _ (TrC.keep [5, 4, 31, 0, 1] ?_))
      show TrC _ _ _ _ [(5, _), (4, _), (31, _), (0, _), (1, _)] _ _
      refine tr_ret (post_ret2 (.inr rfl) rfl rfl rfl ?_)
      have ho : rNum n L = none := by unfold rNum; rw [if_pos (by omega)]
      rw [ho]; exact ⟨A1, c, rfl, SubR.refl _ _, hc, H⟩
    · skip
      refine tr_skip (hK2 _ _ (TrC.keep [31, 5, 4, 0, 1] ?_))
      show TrC _ _ _ _ [(31, _), (5, _), (4, _), (0, _), (1, _)] _ _
      refine tr_seq (fun K6 hK6 => ?_)
      -- region 3: ref.go:52
      refine tr_region ?_
      refine tr_val (ov_assign rfl rfl) rfl rfl rfl ?_
      refine tr_nil (hK6 _ _ (TrC.keep [6, 31, 5, 4, 0, 1] ?_))
      show TrC _ _ _ _ [(6, _), (31, _), (5, _), (4, _), (0, _), (1, _)] _ _
      refine tr_seq (fun K7 hK7 => ?_)
      refine tr_seq (fun K8 hK8 => ?_)
      -- region 4: ref.go:53
      refine tr_region ?_
      refine tr_val (ov_assign rfl rfl) rfl rfl rfl ?_
      refine tr_nil (hK8 _ _ (TrC.keep [7, 6, 31, 5, 4, 0, 1] ?_))
      show TrC _ _ _ _ [(7, _), (6, _), (31, _), (5, _), (4, _), (0, _), (1, _)] _ _
      refine tr_block ?_
      refine tr_loop_ (X := Int) [31, 5, 4, 0, 1] (fun i => [(7, .int .i64 i), (6, .int .u64 (valB (L.take i.toNat)))]) (fun i w' => 0 ≤ i ∧ i ≤ n ∧ SH w (blk r 112 [.slice A1 (L).length c, .bool bad]).foot [blk r 112 [.slice A1 (L).length c, .bool bad]] w') (fun i => (n - i).toNat) (0) (Sub.cons rfl (Sub.cons rfl (Sub.cons rfl (Sub.cons rfl (Sub.cons rfl (Sub.cons rfl (Sub.cons rfl Sub.nil))))))) (⟨by omega, by omega, H⟩) ?_
      rintro i w2 ⟨hi0, hi1, H⟩ K9 hK9
      show TrC _ _ _ _ [(7, _), (6, _), (31, _), (5, _), (4, _), (0, _), (1, _)] _ _
      refine tr_seq (fun K10 hK10 => ?_)
      refine tr_seq (fun K11 hK11 => ?_)
      -- region 5: ref.go:53
      refine tr_region ?_
      refine tr_val (ov_move rfl rfl) rfl rfl rfl ?_
      refine tr_val (ov_move rfl rfl) rfl rfl rfl ?_
      refine tr_val (ov_lss rfl rfl rfl) rfl rfl rfl ?_
      refine tr_nil (hK11 _ _ (TrC.keep [34, 7, 6, 31, 5, 4, 0, 1] ?_))
      show TrC _ _ _ _ [(34, _), (7, _), (6, _), (31, _), (5, _), (4, _), (0, _), (1, _)] _ _
      refine tr_cond rfl (fun c34 => ?_) (fun c34 => ?_)
      · skip
        refine tr_skip (hK10 _ _ (TrC.keep [34, 7, 6, 31, 5, 4, 0, 1] ?_))
        show TrC _ _ _ _ [(34, _), (7, _), (6, _), (31, _), (5, _), (4, _), (0, _), (1, _)] _ _
        refine tr_seq (fun K12 hK12 => ?_)
        refine tr_block ?_
        -- region 7: ref.go:54
        have hbi := hB _ (gt_mem (L := L) hi0 (by omega))
        have hvi := valB_small (hB.take i.toNat) (by rw [List.length_take]; omega)
        refine tr_region ?_
        refine tr_val (ov_move rfl rfl) rfl rfl rfl ?_
        refine tr_val (ov_mul rfl rfl rfl (wu64 (by omega))) rfl rfl rfl ?_
        refine tr_val (ov_move rfl rfl) rfl rfl rfl ?_
        refine tr_val (ov_nilCheck rfl rfl) rfl rfl rfl ?_
        refine tr_val (ov_fieldAddr rfl Try.underlying112 rfl (Try.sizeOf98 _) (by decide) rfl) rfl rfl rfl ?_
        refine tr_val (ov_load_blk H.get0 rfl (Try.isAgg98 _) rfl rfl rfl) rfl rfl rfl ?_
        refine tr_val (ov_move rfl rfl) rfl rfl rfl ?_
        refine tr_val (ov_indexAddrR (hA _ _ H) rfl Try.underlying98 (Try.sizeOf5 _) rfl rfl (by omega) (by omega)) rfl rfl rfl ?_
        refine tr_val (ld_U8 (hA _ _ H) rfl (Try.isAgg5 _) rfl (by omega) (by omega)) rfl rfl rfl ?_
        refine tr_val (ov_conv rfl Try.underlying5 Try.underlying28 rfl (wu64 (by omega))) rfl rfl rfl ?_
        refine tr_val (ov_add rfl rfl rfl (wu64 (by omega))) rfl rfl rfl ?_
        refine tr_val (ov_assign rfl rfl) rfl rfl rfl ?_
        refine tr_nil (hK12 _ _ (TrC.keep [6, 34, 7, 31, 5, 4, 0, 1] ?_))
        show TrC _ _ _ _ [(6, _), (34, _), (7, _), (31, _), (5, _), (4, _), (0, _), (1, _)] _ _
        -- region 6: ref.go:53
        refine tr_region ?_
        refine tr_val (ov_move rfl rfl) rfl rfl rfl ?_
        refine tr_val (ov_add rfl rfl rfl (w64 (by omega))) rfl rfl rfl ?_
        refine tr_val (ov_assign rfl rfl) rfl rfl rfl ?_
        skip
        exact tr_nil (hK9 (i + 1) _ _ (⟨by omega, by omega, H⟩) (by omega) (Sub.cons rfl (Sub.consE rfl (congrArg (Value.int .u64) (valB_take hB hi0 (by omega)).symm) (Sub.cons rfl (Sub.cons rfl (Sub.cons rfl (Sub.cons rfl (Sub.cons rfl Sub.nil))))))))
      · skip
        refine tr_exit (hK7 _ _ (TrC.keep [34, 7, 6, 31, 5, 4, 0, 1] ?_))
        show TrC _ _ _ _ [(34, _), (7, _), (6, _), (31, _), (5, _), (4, _), (0, _), (1, _)] _ _
        refine tr_seq (fun K13 hK13 => ?_)
        -- region 8: ref.go:56
        refine tr_region ?_
        refine tr_val (ov_move rfl rfl) rfl rfl rfl ?_
        refine tr_val (ov_move rfl rfl) rfl rfl rfl ?_
        refine tr_val (ov_nilCheck rfl rfl) rfl rfl rfl ?_
        refine tr_val (ov_fieldAddr rfl Try.underlying112 rfl (Try.sizeOf98 _) (by decide) rfl) rfl rfl rfl ?_
        refine tr_val (ov_load_blk H.get0 rfl (Try.isAgg98 _) rfl rfl rfl) rfl rfl rfl ?_
        refine tr_val (ov_move rfl rfl) rfl rfl rfl ?_
        refine tr_val (ov_slice_lo rfl Try.underlying98 (Try.sizeOf5 _) rfl rfl (by omega) (by omega)) rfl rfl rfl ?_
        refine tr_val (ov_nilCheck rfl rfl) rfl rfl rfl ?_
        refine tr_val (ov_fieldAddr rfl Try.underlying112 rfl (Try.sizeOf98 _) (by decide) rfl) rfl rfl rfl ?_
        (refine tr_store H.get0 rfl (Try.sizeOf98 _) rfl rfl rfl rfl rfl rfl rfl ?_; intro w3 U; have H := H.upd0 U; clear U)
        try simp only [List.set_cons_zero, List.set_cons_succ, Nat.zero_add] at H
        refine tr_nil (hK13 _ _ (TrC.keep [34, 7, 6, 31, 5, 4, 0, 1] ?_))
        show TrC _ _ _ _ [(34, _), (7, _), (6, _), (31, _), (5, _), (4, _), (0, _), (1, _)] _ _
        refine tr_seq (fun K14 hK14 => ?_)
        -- region 9: ref.go:57
        refine tr_region ?_
        refine tr_val (ov_move rfl rfl) rfl rfl rfl ?_
        refine tr_val (ov_assign rfl rfl) rfl rfl rfl ?_
        refine tr_val (ov_assign rfl rfl) rfl rfl rfl ?_
        refine tr_nil (hK14 _ _ (TrC.keep [5, 4, 34, 7, 6, 31, 0, 1] ?_))
        show TrC _ _ _ _ [(5, _), (4, _), (34, _), (7, _), (6, _), (31, _), (0, _), (1, _)] _ _
        refine tr_ret (post_ret2 (.inr rfl) rfl rfl rfl ?_)
        have hi : i = n := by omega
        subst hi
        have ho : rNum i L = some (valB (L.take i.toNat), L.drop i.toNat) := by unfold rNum; rw [if_neg (by omega)]
        rw [ho]; exact ⟨_, c - i.toNat, rfl, SubR.drop hc i.toNat, (by show (L.drop _).length ≤ _; rw [List.length_drop]; omega), (by show SH _ _ [blk r _ [.slice _ (L.drop _).length _, .bool bad]] _; rw [List.length_drop]; exact H)⟩

theorem pm_none {m : Bool} {most : Int} {L : List Int} (z : L.length ≠ 0) (hs : 0 ≤ szV m (gt L 0)) (h : (rNum (szV m (gt L 0)) (L.drop 1)).isSome = false ∨ most < rVal (rNum (szV m (gt L 0)) (L.drop 1))) : pNum m most L = none := by
  rw [pNum_eq z hs]
  cases hq : rNum (szV m (gt L 0)) (L.drop 1) with
  | none => rfl
  | some x =>
    rw [hq] at h
    rcases h with h | h
    · cases h
    · exact if_pos h
theorem pm_some {m : Bool} {most : Int} {L : List Int} (z : L.length ≠ 0) (hs : 0 ≤ szV m (gt L 0)) (h1 : (rNum (szV m (gt L 0)) (L.drop 1)).isSome = true) (h2 : ¬ most < rVal (rNum (szV m (gt L 0)) (L.drop 1))) : pNum m most L = some (rVal (rNum (szV m (gt L 0)) (L.drop 1)), m && decide (128 ≤ gt L 0), rLst (L.drop 1) (rNum (szV m (gt L 0)) (L.drop 1))) := by
  rw [pNum_eq z hs]
  cases hq : rNum (szV m (gt L 0)) (L.drop 1) with
  | none => rw [hq] at h1; cases h1
  | some x => rw [hq] at h2; exact if_neg h2
theorem pm_zero {m : Bool} {most : Int} {L : List Int} (z : L.length = 0) : pNum m most L = none := by unfold pNum; rw [if_pos z]
theorem fC_rng {L : List Int} (hB : Bytes L) : 0 ≤ fC L ∧ fC L ≤ 255 := by
  unfold fC; split
  · decide
  · exact hB _ (gt_mem (by decide) (by omega))
theorem fC_f {L : List Int} (z : L.length ≠ 0) : fC L = szV false (gt L 0) := by unfold fC szV; rw [if_neg z]; rfl
theorem fC_t {L : List Int} (z : L.length ≠ 0) : fC L % 128 = szV true (gt L 0) := by unfold fC szV; rw [if_neg z]; rfl
theorem rVal_rng {n : Int} {L : List Int} (hB : Bytes L) : 0 ≤ rVal (rNum n L) ∧ rVal (rNum n L) ≤ 18446744073709551615 := by
  unfold rNum
  split
  · decide
  · exact valB_big (hB.take _) (by rw [List.length_take]; omega)

/-! (*curfew/curfewref01.Reader).Num -/
set_option maxRecDepth 20000 in
theorem rNum_c (r : Nat) (A1 : Option Addr) (c : Nat) (L : List Int) (bad : Bool) (w : World) (hA : ∀ (rs : List Res) (w' : World), SH w (blk r 112 [.slice A1 (L).length c, .bool bad]).foot rs w' → Rd w' A1 1 (L.map encU8)) (hc : L.length ≤ c) (hB : Bytes L) (hl : L.length ≤ 65536) (hO : (blk r 112 [.slice A1 (L).length c, .bool bad]).holds w) (most : Int) : Does Try.prog 90 #[.pointer (some ⟨r, 0, none⟩), .int .u64 most] w (fun v w' => ∃ A' c', v = .int .u64 (nVal (pNum false most L)) ∧ SubR A1 L A' (nLst (pNum false most L)) ∧ (nLst (pNum false most L)).length ≤ c' ∧ SH w (blk r 112 [.slice A1 (L).length c, .bool bad]).foot [blk r 112 [.slice A' (nLst (pNum false most L)).length c', .bool (nBad bad (pNum false most L))]] w') := by
  refine does_enter2 Try.func90 rfl Try.ntmps90 rfl ?_
  have H := SH.own1 hO
  have hfc := fC_rng hB
  refine tr_seq (fun K1 hK1 => ?_)
  -- region 0: ref.go:71
  refine tr_region ?_
  refine tr_val (ov_assign rfl rfl) rfl rfl rfl ?_
  refine tr_nil (hK1 _ _ (TrC.keep [4, 0, 1] ?_))
  show TrC _ _ _ _ [(4, _), (0, _), (1, _)] _ _
  refine tr_seq (fun K2 hK2 => ?_)
  -- region 1: ref.go:72
  refine tr_region ?_
  refine tr_val (ov_move rfl rfl) rfl rfl rfl ?_
  refine tr_call (rFirst_c r A1 c L bad _ (fun _ _ C => hA _ _ (H.call1e C)) hc hB hl H.get0) rfl rfl rfl Try.call108 rfl rfl rfl ?_
  rintro _ w1 ⟨A2, c2, rfl, hs1, hc2, HC⟩
  have H := H.call1 HC
  refine tr_val (ov_move rfl rfl) rfl rfl rfl ?_
  refine tr_val (ov_extract rfl rfl rfl) rfl rfl rfl ?_
  refine tr_val (ov_extract rfl rfl rfl) rfl rfl rfl ?_
  refine tr_val (ov_assign rfl rfl) rfl rfl rfl ?_
  refine tr_val (ov_assign rfl rfl) rfl rfl rfl ?_
  refine tr_nil (hK2 _ _ (TrC.keep [6, 5, 4, 0, 1] ?_))
  show TrC _ _ _ _ [(6, _), (5, _), (4, _), (0, _), (1, _)] _ _
  refine tr_seq (fun K3 hK3 => ?_)
  refine tr_seq (fun K4 hK4 => ?_)
  -- region 2: ref.go:73
  refine tr_region ?_
  refine tr_val (ov_move rfl rfl) rfl rfl rfl ?_
  refine tr_nil (hK4 _ _ (TrC.keep [14, 5, 4, 0, 1] ?_))
  show TrC _ _ _ _ [(14, _), (5, _), (4, _), (0, _), (1, _)] _ _
  refine tr_cond rfl (fun c14 => ?_) (fun c14 => ?_)
  · skip
    refine tr_seq (fun K5 hK5 => ?_)
    -- region 3: ref.go:74
    refine tr_region ?_
    refine tr_val (ov_move rfl rfl) rfl rfl rfl ?_
    refine tr_val (ov_move rfl rfl) rfl rfl rfl ?_
    refine tr_val (ov_conv rfl Try.underlying5 Try.underlying3 rfl (w64 (by omega))) rfl rfl rfl ?_
    refine tr_call (rNumber_c r A2 c2 (L.drop 1) bad _ (fun _ _ C => hs1 _ (hA _ _ (H.call1e C))) hc2 (hB.drop 1) (by rw [List.length_drop]; omega) H.get0 (fC L) hfc.1) rfl rfl rfl Try.call109 rfl rfl rfl ?_
    rintro _ w2 ⟨A3, c3, rfl, hs2, hc3, HC⟩
    have H := H.call1 HC
    refine tr_val (ov_move rfl rfl) rfl rfl rfl ?_
    refine tr_val (ov_extract rfl rfl rfl) rfl rfl rfl ?_
    refine tr_val (ov_extract rfl rfl rfl) rfl rfl rfl ?_
    refine tr_val (ov_assign rfl rfl) rfl rfl rfl ?_
    refine tr_val (ov_assign rfl rfl) rfl rfl rfl ?_
    refine tr_nil (hK5 _ _ (TrC.keep [8, 7, 14, 4, 0, 1] ?_))
    show TrC _ _ _ _ [(8, _), (7, _), (14, _), (4, _), (0, _), (1, _)] _ _
    refine tr_seq (fun K6 hK6 => ?_)
    -- region 4: ref.go:75
    refine tr_region ?_
    refine tr_val (ov_move rfl rfl) rfl rfl rfl ?_
    refine tr_val (ov_move rfl rfl) rfl rfl rfl ?_
    refine tr_splitb (t := 23) rfl (fun s23 => ?_) (fun s23 => ?_)
    · skip
      refine tr_val (ov_move rfl rfl) rfl rfl rfl ?_
      refine tr_val (ov_move rfl rfl) rfl rfl rfl ?_
      refine tr_val (ov_leq rfl rfl rfl) rfl rfl rfl ?_
      refine tr_val (ov_pick (vb := undef) rfl rfl rfl rfl) rfl rfl rfl ?_
      refine tr_nil (hK6 _ _ (TrC.keep [27, 7, 14, 4, 0] ?_))
      show TrC _ _ _ _ [(27, _), (7, _), (14, _), (4, _), (0, _)] _ _
      refine tr_cond rfl (fun c27 => ?_) (fun c27 => ?_)
      · skip
        refine tr_seq (fun K7 hK7 => ?_)
        -- region 5: ref.go:76
        refine tr_region ?_
        refine tr_val (ov_move rfl rfl) rfl rfl rfl ?_
        refine tr_val (ov_assign rfl rfl) rfl rfl rfl ?_
        refine tr_nil (hK7 _ _ (TrC.keep [4, 27, 7, 14, 0] ?_))
        show TrC _ _ _ _ [(4, _), (27, _), (7, _), (14, _), (0, _)] _ _
        refine tr_ret (post_ret1 (.inr rfl) rfl rfl ?_)
        (have ho := pm_some (m := false) (most := most) (L := L) (by omega) (by rw [← fC_f (by omega)]; omega) (by rw [← fC_f (by omega)]; exact s23) (by rw [← fC_f (by omega)]; omega); rw [← fC_f (by omega)] at ho; skip; rw [ho]; exact ⟨A3, c3, rfl, hs1.trans hs2, hc3, H⟩)
      · skip
        refine tr_skip (hK3 _ _ (TrC.keep [27, 7, 14, 4, 0] ?_))
        show TrC _ _ _ _ [(27, _), (7, _), (14, _), (4, _), (0, _)] _ _
        refine tr_seq (fun K8 hK8 => ?_)
        -- region 6: ref.go:79
        refine tr_region ?_
        refine tr_val (ov_move rfl rfl) rfl rfl rfl ?_
        refine tr_call (rFail_c r _ _ _ bad _ H.get0) rfl rfl rfl Try.call91 rfl rfl rfl ?_
        rintro _ w3 HC
        have H := H.call1 HC
        refine tr_nil (hK8 _ _ (TrC.keep [27, 7, 14, 4, 0] ?_))
        show TrC _ _ _ _ [(27, _), (7, _), (14, _), (4, _), (0, _)] _ _
        refine tr_seq (fun K9 hK9 => ?_)
        -- region 7: ref.go:80
        refine tr_region ?_
        refine tr_val (ov_assign rfl rfl) rfl rfl rfl ?_
        refine tr_nil (hK9 _ _ (TrC.keep [4, 27, 7, 14, 0] ?_))
        show TrC _ _ _ _ [(4, _), (27, _), (7, _), (14, _), (0, _)] _ _
        refine tr_ret (post_ret1 (.inr rfl) rfl rfl ?_)
        (have ho : pNum false most L = none := (by refine pm_none (by omega) (by rw [← fC_f (by omega)]; omega) (.inr ?_); rw [← fC_f (by omega)]; omega); rw [ho]; exact ⟨none, 0, rfl, SubR.nil A1 L, Nat.le_refl _, H⟩)
    · skip
      refine tr_pass rfl rfl rfl ?_
      refine tr_pass rfl rfl rfl ?_
      refine tr_pass rfl rfl rfl ?_
      refine tr_val (ov_pick_f (va := undef) rfl rfl rfl rfl) rfl rfl rfl ?_
      refine tr_nil (hK6 _ _ (TrC.keep [27, 7, 14, 4, 0] ?_))
      show TrC _ _ _ _ [(27, _), (7, _), (14, _), (4, _), (0, _)] _ _
      refine tr_cond_f rfl rfl ?_
      refine tr_skip (hK3 _ _ (TrC.keep [27, 7, 14, 4, 0] ?_))
      show TrC _ _ _ _ [(27, _), (7, _), (14, _), (4, _), (0, _)] _ _
      refine tr_seq (fun K10 hK10 => ?_)
      -- region 6: ref.go:79
      refine tr_region ?_
      refine tr_val (ov_move rfl rfl) rfl rfl rfl ?_
      refine tr_call (rFail_c r _ _ _ bad _ H.get0) rfl rfl rfl Try.call91 rfl rfl rfl ?_
      rintro _ w4 HC
      have H := H.call1 HC
      refine tr_nil (hK10 _ _ (TrC.keep [27, 7, 14, 4, 0] ?_))
      show TrC _ _ _ _ [(27, _), (7, _), (14, _), (4, _), (0, _)] _ _
      refine tr_seq (fun K11 hK11 => ?_)
      -- region 7: ref.go:80
      refine tr_region ?_
      refine tr_val (ov_assign rfl rfl) rfl rfl rfl ?_
      refine tr_nil (hK11 _ _ (TrC.keep [4, 27, 7, 14, 0] ?_))
      show TrC _ _ _ _ [(4, _), (27, _), (7, _), (14, _), (0, _)] _ _
      refine tr_ret (post_ret1 (.inr rfl) rfl rfl ?_)
      (have ho : pNum false most L = none := (by refine pm_none (by omega) (by rw [← fC_f (by omega)]; omega) (.inl ?_); rw [← fC_f (by omega)]; exact s23); rw [ho]; exact ⟨none, 0, rfl, SubR.nil A1 L, Nat.le_refl _, H⟩)
  · skip
    refine tr_skip (hK3 _ _ (TrC.keep [14, 5, 4, 0, 1] ?_))
    show TrC _ _ _ _ [(14, _), (5, _), (4, _), (0, _), (1, _)] _ _
    refine tr_seq (fun K12 hK12 => ?_)
    -- region 6: ref.go:79
    refine tr_region ?_
    refine tr_val (ov_move rfl rfl) rfl rfl rfl ?_
    refine tr_call (rFail_c r _ _ _ bad _ H.get0) rfl rfl rfl Try.call91 rfl rfl rfl ?_
    rintro _ w5 HC
    have H := H.call1 HC
    refine tr_nil (hK12 _ _ (TrC.keep [14, 5, 4, 0, 1] ?_))
    show TrC _ _ _ _ [(14, _), (5, _), (4, _), (0, _), (1, _)] _ _
    refine tr_seq (fun K13 hK13 => ?_)
    -- region 7: ref.go:80
    refine tr_region ?_
    refine tr_val (ov_assign rfl rfl) rfl rfl rfl ?_
    refine tr_nil (hK13 _ _ (TrC.keep [4, 14, 5, 0, 1] ?_))
    show TrC _ _ _ _ [(4, _), (14, _), (5, _), (0, _), (1, _)] _ _
    refine tr_ret (post_ret1 (.inr rfl) rfl rfl ?_)
    (have ho : pNum false most L = none := (by exact pm_zero (by omega)); rw [ho]; exact ⟨none, 0, rfl, SubR.nil A1 L, Nat.le_refl _, H⟩)

/-! (*curfew/curfewref01.Reader).Int -/
set_option maxRecDepth 20000 in
theorem rInt_c (r : Nat) (A1 : Option Addr) (c : Nat) (L : List Int) (bad : Bool) (w : World) (hA : ∀ (rs : List Res) (w' : World), SH w (blk r 112 [.slice A1 (L).length c, .bool bad]).foot rs w' → Rd w' A1 1 (L.map encU8)) (hc : L.length ≤ c) (hB : Bytes L) (hl : L.length ≤ 65536) (hO : (blk r 112 [.slice A1 (L).length c, .bool bad]).holds w) : Does Try.prog 89 #[.pointer (some ⟨r, 0, none⟩)] w (fun v w' => ∃ A' c', v = .int .i64 (iVal (pNum true 9223372036854775807 L)) ∧ SubR A1 L A' (nLst (pNum true 9223372036854775807 L)) ∧ (nLst (pNum true 9223372036854775807 L)).length ≤ c' ∧ SH w (blk r 112 [.slice A1 (L).length c, .bool bad]).foot [blk r 112 [.slice A' (nLst (pNum true 9223372036854775807 L)).length c', .bool (nBad bad (pNum true 9223372036854775807 L))]] w') := by
  refine does_enter1 Try.func89 rfl Try.ntmps89 rfl ?_
  have H := SH.own1 hO
  have hfc := fC_rng hB
  have hrv := rVal_rng (n := fC L % 128) (hB.drop 1)
  refine tr_seq (fun K1 hK1 => ?_)
  -- region 0: ref.go:84
  refine tr_region ?_
  refine tr_val (ov_assign rfl rfl) rfl rfl rfl ?_
  refine tr_nil (hK1 _ _ (TrC.keep [2, 0] ?_))
  show TrC _ _ _ _ [(2, _), (0, _)] _ _
  refine tr_seq (fun K2 hK2 => ?_)
  -- region 1: ref.go:85
  refine tr_region ?_
  refine tr_val (ov_move rfl rfl) rfl rfl rfl ?_
  refine tr_call (rFirst_c r A1 c L bad _ (fun _ _ C => hA _ _ (H.call1e C)) hc hB hl H.get0) rfl rfl rfl Try.call108 rfl rfl rfl ?_
  rintro _ w1 ⟨A2, c2, rfl, hs1, hc2, HC⟩
  have H := H.call1 HC
  refine tr_val (ov_move rfl rfl) rfl rfl rfl ?_
  refine tr_val (ov_extract rfl rfl rfl) rfl rfl rfl ?_
  refine tr_val (ov_extract rfl rfl rfl) rfl rfl rfl ?_
  refine tr_val (ov_assign rfl rfl) rfl rfl rfl ?_
  refine tr_val (ov_assign rfl rfl) rfl rfl rfl ?_
  refine tr_nil (hK2 _ _ (TrC.keep [4, 3, 2, 0] ?_))
  show TrC _ _ _ _ [(4, _), (3, _), (2, _), (0, _)] _ _
  refine tr_seq (fun K3 hK3 => ?_)
  refine tr_seq (fun K4 hK4 => ?_)
  -- region 2: ref.go:86
  refine tr_region ?_
  refine tr_val (ov_move rfl rfl) rfl rfl rfl ?_
  refine tr_nil (hK4 _ _ (TrC.keep [12, 3, 2, 0] ?_))
  show TrC _ _ _ _ [(12, _), (3, _), (2, _), (0, _)] _ _
  refine tr_cond rfl (fun c12 => ?_) (fun c12 => ?_)
  · skip
    refine tr_seq (fun K5 hK5 => ?_)
    -- region 3: ref.go:87
    refine tr_region ?_
    refine tr_val (ov_move rfl rfl) rfl rfl rfl ?_
    refine tr_val (ov_move rfl rfl) rfl rfl rfl ?_
    refine tr_val (ov_rem rfl rfl rfl (by omega) (Int.tmod_eq_emod_of_nonneg (by omega))) rfl rfl rfl ?_
    refine tr_val (ov_conv rfl Try.underlying5 Try.underlying3 rfl (w64 (by omega))) rfl rfl rfl ?_
    refine tr_call (rNumber_c r A2 c2 (L.drop 1) bad _ (fun _ _ C => hs1 _ (hA _ _ (H.call1e C))) hc2 (hB.drop 1) (by rw [List.length_drop]; omega) H.get0 (fC L % 128) (by omega)) rfl rfl rfl Try.call109 rfl rfl rfl ?_
    rintro _ w2 ⟨A3, c3, rfl, hs2, hc3, HC⟩
    have H := H.call1 HC
    refine tr_val (ov_move rfl rfl) rfl rfl rfl ?_
    refine tr_val (ov_extract rfl rfl rfl) rfl rfl rfl ?_
    refine tr_val (ov_extract rfl rfl rfl) rfl rfl rfl ?_
    refine tr_val (ov_assign rfl rfl) rfl rfl rfl ?_
    refine tr_val (ov_assign rfl rfl) rfl rfl rfl ?_
    refine tr_nil (hK5 _ _ (TrC.keep [6, 5, 12, 3, 2, 0] ?_))
    show TrC _ _ _ _ [(6, _), (5, _), (12, _), (3, _), (2, _), (0, _)] _ _
    refine tr_seq (fun K6 hK6 => ?_)
    -- region 4: ref.go:88
    refine tr_region ?_
    refine tr_val (ov_move rfl rfl) rfl rfl rfl ?_
    refine tr_val (ov_move rfl rfl) rfl rfl rfl ?_
    refine tr_splitb (t := 22) rfl (fun s22 => ?_) (fun s22 => ?_)
    · skip
      refine tr_val (ov_move rfl rfl) rfl rfl rfl ?_
      refine tr_val (ov_leq rfl rfl rfl) rfl rfl rfl ?_
      refine tr_val (ov_pick (vb := undef) rfl rfl rfl rfl) rfl rfl rfl ?_
      refine tr_nil (hK6 _ _ (TrC.keep [25, 5, 12, 3, 2, 0] ?_))
      show TrC _ _ _ _ [(25, _), (5, _), (12, _), (3, _), (2, _), (0, _)] _ _
      refine tr_cond rfl (fun c25 => ?_) (fun c25 => ?_)
      · skip
        refine tr_seq (fun K7 hK7 => ?_)
        refine tr_seq (fun K8 hK8 => ?_)
        -- region 5: ref.go:89
        refine tr_region ?_
        refine tr_val (ov_move rfl rfl) rfl rfl rfl ?_
        refine tr_val (ov_geq rfl rfl rfl) rfl rfl rfl ?_
        refine tr_nil (hK8 _ _ (TrC.keep [27, 25, 5, 12, 3, 2, 0] ?_))
        show TrC _ _ _ _ [(27, _), (25, _), (5, _), (12, _), (3, _), (2, _), (0, _)] _ _
        refine tr_cond rfl (fun c27 => ?_) (fun c27 => ?_)
        · skip
          refine tr_seq (fun K9 hK9 => ?_)
          -- region 6: ref.go:90
          refine tr_region ?_
          refine tr_val (ov_move rfl rfl) rfl rfl rfl ?_
          refine tr_val (ov_conv rfl Try.underlying28 Try.underlying2 rfl (w64 (by omega))) rfl rfl rfl ?_
          refine tr_val (ov_sub rfl rfl rfl (w64 (by omega))) rfl rfl rfl ?_
          refine tr_val (ov_assign rfl rfl) rfl rfl rfl ?_
          refine tr_nil (hK9 _ _ (TrC.keep [2, 27, 25, 5, 12, 3, 0] ?_))
          show TrC _ _ _ _ [(2, _), (27, _), (25, _), (5, _), (12, _), (3, _), (0, _)] _ _
          refine tr_ret (post_ret1 (.inr rfl) rfl rfl ?_)
          (have ho := pm_some (m := true) (most := 9223372036854775807) (L := L) (by omega) (by rw [← fC_t (by omega)]; omega) (by rw [← fC_t (by omega)]; exact s22) (by rw [← fC_t (by omega)]; omega); rw [← fC_t (by omega)] at ho; rw [show (true && decide (128 ≤ gt L 0)) = decide (128 ≤ fC L) from (by unfold fC; rw [if_neg (by omega)]; rfl)] at ho; (rw [decide_eq_true c27] at ho); rw [ho]; exact ⟨A3, c3, rfl, hs1.trans hs2, hc3, H⟩)
        · skip
          refine tr_skip (hK7 _ _ (TrC.keep [27, 25, 5, 12, 3, 2, 0] ?_))
          show TrC _ _ _ _ [(27, _), (25, _), (5, _), (12, _), (3, _), (2, _), (0, _)] _ _
          refine tr_seq (fun K10 hK10 => ?_)
          -- region 7: ref.go:92
          refine tr_region ?_
          refine tr_val (ov_move rfl rfl) rfl rfl rfl ?_
          refine tr_val (ov_conv rfl Try.underlying28 Try.underlying2 rfl (w64 (by omega))) rfl rfl rfl ?_
          refine tr_val (ov_assign rfl rfl) rfl rfl rfl ?_
          refine tr_nil (hK10 _ _ (TrC.keep [2, 27, 25, 5, 12, 3, 0] ?_))
          show TrC _ _ _ _ [(2, _), (27, _), (25, _), (5, _), (12, _), (3, _), (0, _)] _ _
          refine tr_ret (post_ret1 (.inr rfl) rfl rfl ?_)
          (have ho := pm_some (m := true) (most := 9223372036854775807) (L := L) (by omega) (by rw [← fC_t (by omega)]; omega) (by rw [← fC_t (by omega)]; exact s22) (by rw [← fC_t (by omega)]; omega); rw [← fC_t (by omega)] at ho; rw [show (true && decide (128 ≤ gt L 0)) = decide (128 ≤ fC L) from (by unfold fC; rw [if_neg (by omega)]; rfl)] at ho; (rw [decide_eq_false c27] at ho); rw [ho]; exact ⟨A3, c3, rfl, hs1.trans hs2, hc3, H⟩)
      · skip
        refine tr_skip (hK3 _ _ (TrC.keep [25, 5, 12, 3, 2, 0] ?_))
        show TrC _ _ _ _ [(25, _), (5, _), (12, _), (3, _), (2, _), (0, _)] _ _
        refine tr_seq (fun K11 hK11 => ?_)
        -- region 8: ref.go:95
        refine tr_region ?_
        refine tr_val (ov_move rfl rfl) rfl rfl rfl ?_
        refine tr_call (rFail_c r _ _ _ bad _ H.get0) rfl rfl rfl Try.call91 rfl rfl rfl ?_
        rintro _ w3 HC
        have H := H.call1 HC
        refine tr_nil (hK11 _ _ (TrC.keep [25, 5, 12, 3, 2, 0] ?_))
        show TrC _ _ _ _ [(25, _), (5, _), (12, _), (3, _), (2, _), (0, _)] _ _
        refine tr_seq (fun K12 hK12 => ?_)
        -- region 9: ref.go:96
        refine tr_region ?_
        refine tr_val (ov_assign rfl rfl) rfl rfl rfl ?_
        refine tr_nil (hK12 _ _ (TrC.keep [2, 25, 5, 12, 3, 0] ?_))
        show TrC _ _ _ _ [(2, _), (25, _), (5, _), (12, _), (3, _), (0, _)] _ _
        refine tr_ret (post_ret1 (.inr rfl) rfl rfl ?_)
        (have ho : pNum true 9223372036854775807 L = none := (by refine pm_none (by omega) (by rw [← fC_t (by omega)]; omega) (.inr ?_); rw [← fC_t (by omega)]; omega); rw [ho]; exact ⟨none, 0, rfl, SubR.nil A1 L, Nat.le_refl _, H⟩)
    · skip
      refine tr_pass rfl rfl rfl ?_
      refine tr_pass rfl rfl rfl ?_
      refine tr_val (ov_pick_f (va := undef) rfl rfl rfl rfl) rfl rfl rfl ?_
      refine tr_nil (hK6 _ _ (TrC.keep [25, 5, 12, 3, 2, 0] ?_))
      show TrC _ _ _ _ [(25, _), (5, _), (12, _), (3, _), (2, _), (0, _)] _ _
      refine tr_cond_f rfl rfl ?_
      refine tr_skip (hK3 _ _ (TrC.keep [25, 5, 12, 3, 2, 0] ?_))
      show TrC _ _ _ _ [(25, _), (5, _), (12, _), (3, _), (2, _), (0, _)] _ _
      refine tr_seq (fun K13 hK13 => ?_)
      -- region 8: ref.go:95
      refine tr_region ?_
      refine tr_val (ov_move rfl rfl) rfl rfl rfl ?_
      refine tr_call (rFail_c r _ _ _ bad _ H.get0) rfl rfl rfl Try.call91 rfl rfl rfl ?_
      rintro _ w4 HC
      have H := H.call1 HC
      refine tr_nil (hK13 _ _ (TrC.keep [25, 5, 12, 3, 2, 0] ?_))
      show TrC _ _ _ _ [(25, _), (5, _), (12, _), (3, _), (2, _), (0, _)] _ _
      refine tr_seq (fun K14 hK14 => ?_)
      -- region 9: ref.go:96
      refine tr_region ?_
      refine tr_val (ov_assign rfl rfl) rfl rfl rfl ?_
      refine tr_nil (hK14 _ _ (TrC.keep [2, 25, 5, 12, 3, 0] ?_))
      show TrC _ _ _ _ [(2, _), (25, _), (5, _), (12, _), (3, _), (0, _)] _ _
      refine tr_ret (post_ret1 (.inr rfl) rfl rfl ?_)
      (have ho : pNum true 9223372036854775807 L = none := (by refine pm_none (by omega) (by rw [← fC_t (by omega)]; omega) (.inl ?_); rw [← fC_t (by omega)]; exact s22); rw [ho]; exact ⟨none, 0, rfl, SubR.nil A1 L, Nat.le_refl _, H⟩)
  · skip
    refine tr_skip (hK3 _ _ (TrC.keep [12, 3, 2, 0] ?_))
    show TrC _ _ _ _ [(12, _), (3, _), (2, _), (0, _)] _ _
    refine tr_seq (fun K15 hK15 => ?_)
    -- region 8: ref.go:95
    refine tr_region ?_
    refine tr_val (ov_move rfl rfl) rfl rfl rfl ?_
    refine tr_call (rFail_c r _ _ _ bad _ H.get0) rfl rfl rfl Try.call91 rfl rfl rfl ?_
    rintro _ w5 HC
    have H := H.call1 HC
    refine tr_nil (hK15 _ _ (TrC.keep [12, 3, 2, 0] ?_))
    show TrC _ _ _ _ [(12, _), (3, _), (2, _), (0, _)] _ _
    refine tr_seq (fun K16 hK16 => ?_)
    -- region 9: ref.go:96
    refine tr_region ?_
    refine tr_val (ov_assign rfl rfl) rfl rfl rfl ?_
    refine tr_nil (hK16 _ _ (TrC.keep [2, 12, 3, 0] ?_))
    show TrC _ _ _ _ [(2, _), (12, _), (3, _), (0, _)] _ _
    refine tr_ret (post_ret1 (.inr rfl) rfl rfl ?_)
    (have ho : pNum true 9223372036854775807 L = none := (by exact pm_zero (by omega)); rw [ho]; exact ⟨none, 0, rfl, SubR.nil A1 L, Nat.le_refl _, H⟩)

end Go.Proofs.Ytblipnjjgbggiaa
