/- Contracts of wheel.Wheel: The laws of wheel: lives, WheelNobody, WheelFull. Conditions: none. -/
import Derived.Test.YtblipnjjgbggiaaWhC
import Derived.Test.YtblipnjjgbggiaaArr
namespace Go.Proofs.Ytblipnjjgbggiaa
open Go Go.RowKit
set_option linter.unusedVariables false
set_option linter.unusedSimpArgs false

def lvX1 : List Thing := [⟨1, 0, 100⟩]
def lvX2 : List Thing := [⟨1, 0, 100⟩, ⟨2, 0, 63⟩]
theorem liveX1 : armV [] ⟨1, 0, 100⟩ = (lvX1, 0) := by kernel_rfl
theorem liveX2 : armV lvX1 ⟨2, 0, 63⟩ = (lvX2, 0) := by kernel_rfl
theorem liveX3 : spreadA 0 lvX2 = [1, 1, 0, 0, 0] := by kernel_rfl
theorem liveX4 : advE 0 70 = 0 := by kernel_rfl
theorem liveX5 : advF 0 70 lvX2 = [⟨2, 0, 63⟩] := by kernel_rfl
theorem liveX6 : advX 0 70 lvX2 = lvX1 := by kernel_rfl
theorem liveX7 : advN 0 70 = 70 := by kernel_rfl
theorem liveX8 : spreadA 70 lvX1 = [1, 0, 0, 0, 0] := by kernel_rfl

/-! curfew/curfewlaw12.lives -/
set_option maxRecDepth 20000 in
theorem lives12_c (w : World) : Does Try.prog 13 #[] w (fun v w' => v = .bool true ∧ SH w noBlocks [] w') := by
  refine does_enter0 Try.func13 rfl Try.ntmps13 rfl ?_
  have H := SH.start w noBlocks
  refine tr_seq (fun K1 hK1 => ?_)
  -- region 0: law.go:14
  refine tr_region ?_
  refine tr_val (ov_assign rfl rfl) rfl rfl rfl ?_
  refine tr_nil (hK1 _ _ (TrC.keep [0] ?_))
  show TrC _ _ _ _ [(0, _)] _ _
  refine tr_seq (fun K2 hK2 => ?_)
  -- region 1: law.go:15
  refine tr_region ?_
  refine tr_call (wNew_c 0 _ (by decide)) rfl rfl rfl Try.call14 rfl rfl rfl ?_
  rintro _ w1 ⟨d, L0, rfl, hX0, HC⟩
  have H := H.call0r HC
  refine tr_val (ov_assign rfl rfl) rfl rfl rfl ?_
  refine tr_nil (hK2 _ _ (TrC.keep [1, 0] ?_))
  show TrC _ _ _ _ [(1, _), (0, _)] _ _
  refine tr_seq (fun K3 hK3 => ?_)
  -- region 2: law.go:16
  refine tr_region ?_
  refine tr_val (ov_move rfl rfl) rfl rfl rfl ?_
  refine tr_val (ov_build rfl (fun ρ k => bs2 k rfl rfl) (bld30_0_2 _ _ _)) rfl rfl rfl ?_
  refine tr_call (wArm_c d 0 [] L0 _ hX0 H.get0 ⟨1, 0, 100⟩) rfl rfl rfl Try.call15 rfl rfl rfl ?_
  rintro _ w2 ⟨rfl, L1, hX1, HC⟩
  have H := H.call1 HC
  rw [liveX1] at hX1 ⊢
  refine tr_nil (hK3 _ _ (TrC.keep [1, 0] ?_))
  show TrC _ _ _ _ [(1, _), (0, _)] _ _
  refine tr_seq (fun K4 hK4 => ?_)
  -- region 3: law.go:17
  refine tr_region ?_
  refine tr_val (ov_move rfl rfl) rfl rfl rfl ?_
  refine tr_val (ov_build rfl (fun ρ k => bs2 k rfl rfl) (bld30_0_2 _ _ _)) rfl rfl rfl ?_
  refine tr_call (wArm_c d 0 lvX1 L1 _ hX1 H.get0 ⟨2, 0, 63⟩) rfl rfl rfl Try.call15 rfl rfl rfl ?_
  rintro _ w3 ⟨rfl, L2, hX2, HC⟩
  have H := H.call1 HC
  rw [liveX2] at hX2 ⊢
  refine tr_nil (hK4 _ _ (TrC.keep [1, 0] ?_))
  show TrC _ _ _ _ [(1, _), (0, _)] _ _
  refine tr_seq (fun K5 hK5 => ?_)
  -- region 4: law.go:18
  refine tr_region ?_
  refine tr_val (ov_move rfl rfl) rfl rfl rfl ?_
  refine tr_call (wSpread_c d 0 lvX2 L2 _ hX2 H.get0) rfl rfl rfl Try.call19 rfl rfl rfl ?_
  rintro _ w4 ⟨rfl, HC⟩
  have H := H.call0n HC
  rw [liveX3]
  refine tr_alloc H rfl (Try.zeroValue38 _) rfl rfl rfl rfl ?_
  intro b1 w5 hb1 H
  (refine tr_storeW H.get0 rfl (Try.sizeOf38 _) rfl rfl rfl rfl rfl rfl rfl rfl ?_; intro w6 U; have H := H.upd0 U; clear U)
  refine tr_nil (hK5 _ _ (TrC.keep [2, 1, 0] ?_))
  show TrC _ _ _ _ [(2, _), (1, _), (0, _)] _ _
  refine tr_seq (fun K6 hK6 => ?_)
  -- region 5: law.go:19
  refine tr_region ?_
  refine tr_val (ov_move rfl rfl) rfl rfl rfl ?_
  refine tr_call (wAdvance_c d 0 lvX2 L2 _ hX2 H.get1 70) rfl rfl rfl Try.call16 rfl rfl rfl ?_
  rintro _ w7 ⟨A1, c1, rfl, L3, hX3, HC⟩
  have H := H.top1.call1e HC
  rw [liveX4, liveX5]
  rw [liveX5] at H
  rw [liveX6, liveX7] at hX3
  refine tr_val (ov_move rfl rfl) rfl rfl rfl ?_
  refine tr_val (ov_extract rfl rfl rfl) rfl rfl rfl ?_
  refine tr_val (ov_extract rfl rfl rfl) rfl rfl rfl ?_
  refine tr_val (ov_assign rfl rfl) rfl rfl rfl ?_
  refine tr_val (ov_assign rfl rfl) rfl rfl rfl ?_
  refine tr_nil (hK6 _ _ (TrC.keep [4, 3, 2, 1, 0] ?_))
  show TrC _ _ _ _ [(4, _), (3, _), (2, _), (1, _), (0, _)] _ _
  refine tr_seq (fun K7 hK7 => ?_)
  -- region 6: law.go:20
  refine tr_region ?_
  refine tr_val (ov_load_blkN H.get2 rfl (Try.isAgg38 _) (Try.sizeOf38 _) rfl rfl rfl) rfl rfl rfl ?_
  refine tr_val (ov_build rfl (fun ρ k => bs2 k rfl rfl) (bld38_0_1 _ _ _)) rfl rfl rfl ?_
  refine tr_val (ov_eqlA5 rfl rfl rfl rfl rfl) rfl rfl rfl ?_
  refine tr_val (ov_move rfl rfl) rfl rfl rfl ?_
  refine tr_split (t := 22) rfl (fun s22 => ?_) (fun s22 => ?_)
  · skip
    refine tr_val (ov_move rfl rfl) rfl rfl rfl ?_
    refine tr_val (ov_eql rfl rfl rfl) rfl rfl rfl ?_
    refine tr_val (ov_pick (vb := undef) rfl rfl rfl rfl) rfl rfl rfl ?_
    refine tr_val (ov_move rfl rfl) rfl rfl rfl ?_
    refine tr_split (t := 26) rfl (fun s26 => ?_) (fun s26 => ?_)
    · skip
      refine tr_val (ov_move rfl rfl) rfl rfl rfl ?_
      refine tr_val (ov_len rfl rfl Try.underlying32 rfl) rfl rfl rfl ?_
      refine tr_val (ov_eql rfl rfl rfl) rfl rfl rfl ?_
      refine tr_val (ov_pick (vb := undef) rfl rfl rfl rfl) rfl rfl rfl ?_
      refine tr_val (ov_move rfl rfl) rfl rfl rfl ?_
      refine tr_split (t := 31) rfl (fun s31 => ?_) (fun s31 => ?_)
      · skip
        refine tr_val (ov_move rfl rfl) rfl rfl rfl ?_
        refine tr_val (ov_indexAddrR (vec_rd H.get0 lenThing (by decide)) rfl Try.underlying32 (Try.sizeOf30 _) rfl rfl (by omega) (by omega)) rfl rfl rfl ?_
        refine tr_val (ov_fieldAddr rfl Try.underlying30 rfl (Try.sizeOf28 _) (by decide) rfl) rfl rfl rfl ?_
        refine tr_val (ld_Thing_0 (vec_rd H.get0 lenThing (by decide)) rfl (Try.isAgg28 _) rfl (by omega) (by omega)) rfl rfl rfl ?_
        refine tr_val (ov_eql rfl rfl rfl) rfl rfl rfl ?_
        refine tr_val (ov_pick (vb := undef) rfl rfl rfl rfl) rfl rfl rfl ?_
        refine tr_val (ov_move rfl rfl) rfl rfl rfl ?_
        refine tr_split (t := 38) rfl (fun s38 => ?_) (fun s38 => ?_)
        · skip
          refine tr_val (ov_move rfl rfl) rfl rfl rfl ?_
          refine tr_call (wSpread_c d 70 lvX1 L3 _ hX3 H.get1) rfl rfl rfl Try.call19 rfl rfl rfl ?_
          rintro _ w8 ⟨rfl, HC⟩
          have H := H.call0n HC
          rw [liveX8]
          refine tr_val (ov_build rfl (fun ρ k => bs1 k rfl) (bld38_0 _ _)) rfl rfl rfl ?_
          refine tr_val (ov_eqlA5 rfl rfl rfl rfl rfl) rfl rfl rfl ?_
          refine tr_val (ov_pick (vb := undef) rfl rfl rfl rfl) rfl rfl rfl ?_
          refine tr_val (ov_assign rfl rfl) rfl rfl rfl ?_
          refine tr_nil (hK7 _ _ (TrC.keep [0, 4, 3, 2, 1] ?_))
          show TrC _ _ _ _ [(0, _), (4, _), (3, _), (2, _), (1, _)] _ _
          refine tr_ret (post_ret1 (.inr rfl) rfl rfl ?_)
          exact ⟨rfl, H.drop0.drop0.drop0⟩
        · exact absurd rfl s38
      · exact absurd rfl s31
    · exact absurd rfl s26
  · exact absurd rfl s22

/-! curfew/curfewlaw12.WheelNobody -/
set_option maxRecDepth 20000 in
theorem WheelNobody_c (t : Thing) (to_ : Int) (w : World) : Does Try.prog 7 #[.agg #[.int .u64 t.id, .int .u64 t.gen, .int .i64 t.due], .int .i64 to_] w (fun v w' => v = .bool true ∧ SH w noBlocks [] w') := by
  refine does_enter2 Try.func7 rfl Try.ntmps7 rfl ?_
  have H := SH.start w noBlocks
  refine tr_seq (fun K1 hK1 => ?_)
  -- region 0: law.go:173
  refine tr_region ?_
  refine tr_box H rfl rfl rfl rfl rfl rfl ?_
  intro b1 w1 hb1 H
  refine tr_val (ov_assign rfl rfl) rfl rfl rfl ?_
  refine tr_nil (hK1 _ _ (TrC.keep [4, 2, 1] ?_))
  show TrC _ _ _ _ [(4, _), (2, _), (1, _)] _ _
  refine tr_seq (fun K2 hK2 => ?_)
  -- region 1: law.go:174
  refine tr_region ?_
  refine tr_val (ov_assign rfl rfl) rfl rfl rfl ?_
  refine tr_nil (hK2 _ _ (TrC.keep [5, 4, 2, 1] ?_))
  show TrC _ _ _ _ [(5, _), (4, _), (2, _), (1, _)] _ _
  refine tr_seq (fun K3 hK3 => ?_)
  refine tr_seq (fun K4 hK4 => ?_)
  -- region 2: law.go:175
  refine tr_region ?_
  refine tr_val (ov_move rfl rfl) rfl rfl rfl ?_
  refine tr_val (ov_build rfl (fun ρ k => bs0 k) (bld65 _)) rfl rfl rfl ?_
  refine tr_box H rfl rfl rfl rfl rfl rfl ?_
  intro b9 w2 hb9 H
  refine tr_buildSlice H rfl Try.underlying66 info24 rfl (fun ρ k => bs2 k rfl rfl) (by decide) (by decide) (fill_Ptr_2 none (some ⟨b9, 0, none⟩)) rfl rfl rfl ?_
  intro b10 w10 hb10 H
  refine tr_val (ov_len rfl rfl Try.underlying66 rfl) rfl rfl rfl ?_
  refine tr_val (ov_move rfl rfl) rfl rfl rfl ?_
  refine tr_nil (hK4 _ _ (TrC.keep [21, 20, 19, 5, 4, 2, 1] ?_))
  show TrC _ _ _ _ [(21, _), (20, _), (19, _), (5, _), (4, _), (2, _), (1, _)] _ _
  refine tr_block ?_
  refine tr_loop_ (X := Int) [20, 19, 5, 2, 1] (fun i => [(21, .int .i64 i)]) (fun i w' => 0 ≤ i ∧ i ≤ 2 ∧ SH w noBlocks [blk b10 24 [.pointer none, .pointer (some ⟨b9, 0, none⟩)], blk b9 65 [.int .i64 0, .pointer none, .pointer none, .pointer none, .pointer none, .pointer none], blk b1 30 [.int .u64 t.id, .int .u64 t.gen, .int .i64 t.due]] w') (fun i => (2 - i).toNat) (0) (Sub.cons rfl (Sub.cons rfl (Sub.cons rfl (Sub.cons rfl (Sub.cons rfl (Sub.cons rfl Sub.nil)))))) (⟨by omega, by omega, H⟩) ?_
  rintro i w3 ⟨hi0, hi1, H⟩ K5 hK5
  show TrC _ _ _ _ [(21, _), (20, _), (19, _), (5, _), (2, _), (1, _)] _ _
  refine tr_seq (fun K6 hK6 => ?_)
  -- region 3: law.go:175
  refine tr_region ?_
  refine tr_val (ov_lss rfl rfl rfl) rfl rfl rfl ?_
  refine tr_nil (hK6 _ _ (TrC.keep [22, 21, 20, 19, 5, 2, 1] ?_))
  show TrC _ _ _ _ [(22, _), (21, _), (20, _), (19, _), (5, _), (2, _), (1, _)] _ _
  refine tr_seq (fun K7 hK7 => ?_)
  refine tr_cond rfl (fun c22 => ?_) (fun c22 => ?_)
  · skip
    refine tr_skip (hK7 _ _ (TrC.keep [22, 21, 20, 19, 5, 2, 1] ?_))
    show TrC _ _ _ _ [(22, _), (21, _), (20, _), (19, _), (5, _), (2, _), (1, _)] _ _
    refine tr_seq (fun K8 hK8 => ?_)
    refine tr_block ?_
    refine tr_seq (fun K9 hK9 => ?_)
    -- region 4: law.go:175
    refine tr_region ?_
    refine tr_val (ov_indexAddrR (rd_blk [none, some (⟨b9, 0, none⟩ : Addr)] H.get0 rfl lenPtr) rfl Try.underlying66 (Try.sizeOf24 _) rfl rfl (by omega) (by omega)) rfl rfl rfl ?_
    refine tr_val (ld_Ptr (rd_blk [none, some (⟨b9, 0, none⟩ : Addr)] H.get0 rfl lenPtr) rfl (Try.isAgg24 _) rfl (by omega) (by omega)) rfl rfl rfl ?_
    refine tr_val (ov_assign rfl rfl) rfl rfl rfl ?_
    refine tr_nil (hK9 _ _ (TrC.keep [7, 22, 21, 20, 19, 5, 2, 1] ?_))
    show TrC _ _ _ _ [(7, _), (22, _), (21, _), (20, _), (19, _), (5, _), (2, _), (1, _)] _ _
    refine tr_seq (fun K10 hK10 => ?_)
    -- region 5: law.go:176
    obtain ⟨p, hp⟩ : ∃ p, gt [none, some (⟨b9, 0, none⟩ : Addr)] i = p := ⟨_, rfl⟩
    rw [hp]
    have hnr : ∀ w', (blk b9 65 [.int .i64 0, .pointer none, .pointer none, .pointer none, .pointer none, .pointer none]).holds w' → NoWheel w' p := fun w' h => by
      rcases (show i = 0 ∨ i = 1 by omega) with e | e
      · subst e; rw [← hp]; exact .inl rfl
      · subst e; rw [← hp]; exact .inr ⟨b9, rfl, h⟩
    refine tr_region ?_
    refine tr_val (ov_move rfl rfl) rfl rfl rfl ?_
    refine tr_val (ov_move rfl rfl) rfl rfl rfl ?_
    refine tr_call (wAdvance_n p _ (hnr _ H.get1) to_) rfl rfl rfl Try.call16 rfl rfl rfl ?_
    rintro _ w4 ⟨rfl, HC⟩
    have H := H.call0n HC
    refine tr_val (ov_move rfl rfl) rfl rfl rfl ?_
    refine tr_val (ov_extract rfl rfl rfl) rfl rfl rfl ?_
    refine tr_val (ov_extract rfl rfl rfl) rfl rfl rfl ?_
    refine tr_val (ov_assign rfl rfl) rfl rfl rfl ?_
    refine tr_val (ov_assign rfl rfl) rfl rfl rfl ?_
    refine tr_nil (hK10 _ _ (TrC.keep [9, 7, 22, 21, 20, 19, 5, 2, 1] ?_))
    show TrC _ _ _ _ [(9, _), (7, _), (22, _), (21, _), (20, _), (19, _), (5, _), (2, _), (1, _)] _ _
    refine tr_seq (fun K11 hK11 => ?_)
    -- region 6: law.go:177
    refine tr_region ?_
    refine tr_val (ov_move rfl rfl) rfl rfl rfl ?_
    refine tr_val (ov_fieldAddr rfl Try.underlying30 rfl (Try.sizeOf28 _) (by decide) rfl) rfl rfl rfl ?_
    refine tr_val (ov_load_blk H.get2 rfl (Try.isAgg28 _) rfl rfl rfl) rfl rfl rfl ?_
    refine tr_call (wCancel_n p _ (hnr _ H.get1) t.id) rfl rfl rfl Try.call21 rfl rfl rfl ?_
    rintro _ w5 ⟨rfl, HC⟩
    have H := H.call0n HC
    refine tr_val (ov_move rfl rfl) rfl rfl rfl ?_
    refine tr_val (ov_extract rfl rfl rfl) rfl rfl rfl ?_
    refine tr_val (ov_extract rfl rfl rfl) rfl rfl rfl ?_
    refine tr_alloc H rfl (Try.zeroValue30 _) rfl rfl rfl rfl ?_
    intro b3 w6 hb3 H
    (refine tr_storeW H.get0 rfl (Try.sizeOf30 _) rfl rfl rfl rfl rfl rfl rfl rfl ?_; intro w7 U; have H := H.upd0 U; clear U)
    refine tr_val (ov_assign rfl rfl) rfl rfl rfl ?_
    refine tr_nil (hK11 _ _ (TrC.keep [11, 9, 7, 22, 21, 20, 19, 5, 2, 1] ?_))
    show TrC _ _ _ _ [(11, _), (9, _), (7, _), (22, _), (21, _), (20, _), (19, _), (5, _), (2, _), (1, _)] _ _
    refine tr_seq (fun K12 hK12 => ?_)
    -- region 7: law.go:178
    refine tr_region ?_
    refine tr_val (ov_move rfl rfl) rfl rfl rfl ?_
    refine tr_val (ov_fieldAddr rfl Try.underlying30 rfl (Try.sizeOf28 _) (by decide) rfl) rfl rfl rfl ?_
    refine tr_val (ov_load_blk H.get3 rfl (Try.isAgg28 _) rfl rfl rfl) rfl rfl rfl ?_
    refine tr_call (wGet_n p _ (hnr _ H.get2) t.id) rfl rfl rfl Try.call27 rfl rfl rfl ?_
    rintro _ w8 ⟨rfl, HC⟩
    have H := H.call0n HC
    refine tr_val (ov_move rfl rfl) rfl rfl rfl ?_
    refine tr_val (ov_extract rfl rfl rfl) rfl rfl rfl ?_
    refine tr_val (ov_extract rfl rfl rfl) rfl rfl rfl ?_
    refine tr_alloc H rfl (Try.zeroValue30 _) rfl rfl rfl rfl ?_
    intro b4 w9 hb4 H
    (refine tr_storeW H.get0 rfl (Try.sizeOf30 _) rfl rfl rfl rfl rfl rfl rfl rfl ?_; intro w10 U; have H := H.upd0 U; clear U)
    refine tr_val (ov_assign rfl rfl) rfl rfl rfl ?_
    refine tr_nil (hK12 _ _ (TrC.keep [13, 11, 9, 7, 22, 21, 20, 19, 5, 2, 1] ?_))
    show TrC _ _ _ _ [(13, _), (11, _), (9, _), (7, _), (22, _), (21, _), (20, _), (19, _), (5, _), (2, _), (1, _)] _ _
    refine tr_seq (fun K13 hK13 => ?_)
    -- region 8: law.go:179
    refine tr_region ?_
    refine tr_val (ov_move rfl rfl) rfl rfl rfl ?_
    refine tr_call (wNext_n p _ (hnr _ H.get3)) rfl rfl rfl Try.call26 rfl rfl rfl ?_
    rintro _ w11 ⟨rfl, HC⟩
    have H := H.call0n HC
    refine tr_val (ov_move rfl rfl) rfl rfl rfl ?_
    refine tr_val (ov_extract rfl rfl rfl) rfl rfl rfl ?_
    refine tr_val (ov_extract rfl rfl rfl) rfl rfl rfl ?_
    refine tr_val (ov_assign rfl rfl) rfl rfl rfl ?_
    refine tr_val (ov_assign rfl rfl) rfl rfl rfl ?_
    refine tr_nil (hK13 _ _ (TrC.keep [15, 13, 11, 9, 7, 22, 21, 20, 19, 5, 2, 1] ?_))
    show TrC _ _ _ _ [(15, _), (13, _), (11, _), (9, _), (7, _), (22, _), (21, _), (20, _), (19, _), (5, _), (2, _), (1, _)] _ _
    refine tr_seq (fun K14 hK14 => ?_)
    -- region 9: law.go:180
    refine tr_region ?_
    refine tr_val (ov_move rfl rfl) rfl rfl rfl ?_
    refine tr_val (ov_load_blkN H.get4 rfl (Try.isAgg30 _) (Try.sizeOf30 _) rfl rfl rfl) rfl rfl rfl ?_
    refine tr_call (wArm_n p _ (hnr _ H.get3) t) rfl rfl rfl Try.call15 rfl rfl rfl ?_
    rintro _ w12 ⟨rfl, HC⟩
    have H := H.call0n HC
    refine tr_val (ov_neq rfl rfl rfl) rfl rfl rfl ?_
    refine tr_val (ov_move rfl rfl) rfl rfl rfl ?_
    refine tr_split (t := 54) rfl (fun s54 => ?_) (fun s54 => ?_)
    · exact absurd rfl s54
    · skip
      refine tr_val (ov_move rfl rfl) rfl rfl rfl ?_
      refine tr_val (ov_neq rfl rfl rfl) rfl rfl rfl ?_
      refine tr_val (ov_pick_f (va := undef) rfl rfl rfl rfl) rfl rfl rfl ?_
      refine tr_val (ov_move rfl rfl) rfl rfl rfl ?_
      refine tr_split (t := 58) rfl (fun s58 => ?_) (fun s58 => ?_)
      · exact absurd rfl s58
      · skip
        refine tr_val (ov_move rfl rfl) rfl rfl rfl ?_
        refine tr_val (ov_pick_f (va := undef) rfl rfl rfl rfl) rfl rfl rfl ?_
        refine tr_val (ov_move rfl rfl) rfl rfl rfl ?_
        refine tr_splitb (t := 61) rfl (fun s61 => ?_) (fun s61 => ?_)
        · cases s61
        · skip
          refine tr_val (ov_move rfl rfl) rfl rfl rfl ?_
          refine tr_val (ov_pick_f (va := undef) rfl rfl rfl rfl) rfl rfl rfl ?_
          refine tr_val (ov_move rfl rfl) rfl rfl rfl ?_
          refine tr_splitb (t := 64) rfl (fun s64 => ?_) (fun s64 => ?_)
          · cases s64
          · skip
            refine tr_val (ov_move rfl rfl) rfl rfl rfl ?_
            refine tr_val (ov_pick_f (va := undef) rfl rfl rfl rfl) rfl rfl rfl ?_
            refine tr_val (ov_move rfl rfl) rfl rfl rfl ?_
            refine tr_splitb (t := 67) rfl (fun s67 => ?_) (fun s67 => ?_)
            · cases s67
            · skip
              refine tr_val (ov_move rfl rfl) rfl rfl rfl ?_
              refine tr_call (wAll_n p _ (hnr _ H.get3)) rfl rfl rfl Try.call18 rfl rfl rfl ?_
              rintro _ w13 ⟨rfl, HC⟩
              have H := H.call0n HC
              refine tr_val (ov_len rfl rfl Try.underlying32 rfl) rfl rfl rfl ?_
              refine tr_val (ov_neq rfl rfl rfl) rfl rfl rfl ?_
              refine tr_val (ov_pick_f (va := undef) rfl rfl rfl rfl) rfl rfl rfl ?_
              refine tr_val (ov_move rfl rfl) rfl rfl rfl ?_
              refine tr_split (t := 73) rfl (fun s73 => ?_) (fun s73 => ?_)
              · exact absurd rfl s73
              · skip
                refine tr_val (ov_move rfl rfl) rfl rfl rfl ?_
                refine tr_call (wLen_n p _ (hnr _ H.get3)) rfl rfl rfl Try.call20 rfl rfl rfl ?_
                rintro _ w14 ⟨rfl, HC⟩
                have H := H.call0n HC
                refine tr_val (ov_neq rfl rfl rfl) rfl rfl rfl ?_
                refine tr_val (ov_pick_f (va := undef) rfl rfl rfl rfl) rfl rfl rfl ?_
                refine tr_val (ov_move rfl rfl) rfl rfl rfl ?_
                refine tr_split (t := 78) rfl (fun s78 => ?_) (fun s78 => ?_)
                · exact absurd rfl s78
                · skip
                  refine tr_val (ov_move rfl rfl) rfl rfl rfl ?_
                  refine tr_call (wNow_n p _ (hnr _ H.get3)) rfl rfl rfl Try.call23 rfl rfl rfl ?_
                  rintro _ w15 ⟨rfl, HC⟩
                  have H := H.call0n HC
                  refine tr_val (ov_neq rfl rfl rfl) rfl rfl rfl ?_
                  refine tr_val (ov_pick_f (va := undef) rfl rfl rfl rfl) rfl rfl rfl ?_
                  refine tr_val (ov_move rfl rfl) rfl rfl rfl ?_
                  refine tr_split (t := 83) rfl (fun s83 => ?_) (fun s83 => ?_)
                  · exact absurd rfl s83
                  · skip
                    refine tr_val (ov_move rfl rfl) rfl rfl rfl ?_
                    refine tr_call (wSpread_n p _ (hnr _ H.get3)) rfl rfl rfl Try.call19 rfl rfl rfl ?_
                    rintro _ w16 ⟨rfl, HC⟩
                    have H := H.call0n HC
                    refine tr_val (ov_build rfl (fun ρ k => bs0 k) (bld38 _)) rfl rfl rfl ?_
                    refine tr_val (ov_neqA5 (s := [0, 0, 0, 0, 0]) (t := [0, 0, 0, 0, 0]) rfl rfl rfl rfl rfl) rfl rfl rfl ?_
                    refine tr_val (ov_pick_f (va := undef) rfl rfl rfl rfl) rfl rfl rfl ?_
                    refine tr_nil (hK14 _ _ (TrC.keep [88, 7, 22, 21, 20, 19, 5, 2, 1] ?_))
                    show TrC _ _ _ _ [(88, _), (7, _), (22, _), (21, _), (20, _), (19, _), (5, _), (2, _), (1, _)] _ _
                    refine tr_cond rfl (fun c88 => ?_) (fun c88 => ?_)
                    · exact absurd rfl c88
                    · skip
                      refine tr_skip (hK8 _ _ (TrC.keep [88, 7, 22, 21, 20, 19, 5, 2, 1] ?_))
                      show TrC _ _ _ _ [(88, _), (7, _), (22, _), (21, _), (20, _), (19, _), (5, _), (2, _), (1, _)] _ _
                      -- region 11: law.go:175
                      refine tr_region ?_
                      refine tr_val (ov_add rfl rfl rfl (w64 (by omega))) rfl rfl rfl ?_
                      refine tr_val (ov_move rfl rfl) rfl rfl rfl ?_
                      skip
                      exact tr_nil (hK5 (i + 1) _ _ (⟨by omega, by omega, H.drop0.drop0⟩) (by omega) (Sub.cons rfl (Sub.cons rfl (Sub.cons rfl (Sub.cons rfl (Sub.cons rfl (Sub.cons rfl Sub.nil)))))))
  · skip
    refine tr_exit (hK3 _ _ (TrC.keep [22, 21, 20, 19, 5, 2, 1] ?_))
    show TrC _ _ _ _ [(22, _), (21, _), (20, _), (19, _), (5, _), (2, _), (1, _)] _ _
    refine tr_seq (fun K15 hK15 => ?_)
    -- region 12: law.go:184
    refine tr_region ?_
    refine tr_call (lives12_c _) rfl rfl rfl Try.call13 rfl rfl rfl ?_
    rintro _ w17 ⟨rfl, HC⟩
    have H := H.call0n HC
    refine tr_val (ov_assign rfl rfl) rfl rfl rfl ?_
    refine tr_nil (hK15 _ _ (TrC.keep [4, 22, 21, 20, 19, 5, 2, 1] ?_))
    show TrC _ _ _ _ [(4, _), (22, _), (21, _), (20, _), (19, _), (5, _), (2, _), (1, _)] _ _
    refine tr_ret (post_ret1 (.inr rfl) rfl rfl ?_)
    exact ⟨rfl, H.drop0.drop0.drop0⟩

def fullL (n : Nat) (due : Int) : List Thing := (List.range n).map fun k : Nat => ⟨(k : Int), 0, due⟩
theorem full_len (n : Nat) (due : Int) : (fullL n due).length = n := by simp [fullL]
theorem full_mem {n : Nat} {due : Int} {t : Thing} : t ∈ fullL n due ↔ ∃ k : Nat, k < n ∧ t = ⟨k, 0, due⟩ := by
  simp only [fullL, List.mem_map, List.mem_range]
  exact ⟨fun ⟨k, h, e⟩ => ⟨k, h, e.symm⟩, fun ⟨k, h, e⟩ => ⟨k, h, e.symm⟩⟩
theorem full_ids (n : Nat) (due : Int) : Ids (fullL n due) := by
  unfold Ids fullL
  rw [List.map_map]
  exact List.Pairwise.map _ (fun a b h e => h (Int.ofNat.inj e)) List.nodup_range
theorem full_none {n : Nat} {due id : Int} (h : (n : Int) ≤ id) : findT id (fullL n due) = none := findT_none.mpr fun t ht e => by
  obtain ⟨k, hk, rfl⟩ := full_mem.mp ht
  have e : id = (k : Int) := e
  omega
theorem full_some {n : Nat} {due id : Int} (h : 0 ≤ id) (h' : id < n) : findT id (fullL n due) = some ⟨id, 0, due⟩ := findT_mem (t := ⟨id, 0, due⟩) (full_ids n due) (full_mem.mpr ⟨id.toNat, by omega, by rw [Int.toNat_of_nonneg h]⟩)
theorem full_arm {due i : Int} (hd : 0 ≤ due ∧ due ≤ 1125899906842624) (h0 : 0 ≤ i) (h1 : i < 256) : armV (fullL i.toNat due) ⟨i, 0, due⟩ = (fullL (i + 1).toNat due, 0) := by
  unfold armV
  rw [if_neg (Classical.not_not.mpr hd), full_none (by dsimp only; omega), if_neg (by decide), if_neg (by rw [full_len]; omega)]
  have e : (i + 1).toNat = i.toNat + 1 := by omega
  rw [e]
  unfold fullL
  rw [List.range_succ, List.map_append]
  simp only [List.map_cons, List.map_nil, Int.toNat_of_nonneg h0]
theorem full_a1 {due : Int} (hd : 0 ≤ due ∧ due ≤ 1125899906842624) : armV (fullL 256 due) ⟨1000, 0, due⟩ = (fullL 256 due, 30) := by
  unfold armV
  rw [if_neg (Classical.not_not.mpr hd), full_none (by dsimp only; omega), if_neg (by decide), if_pos (by rw [full_len]; omega)]
theorem full_a2 {due id : Int} (hd : 0 ≤ due ∧ due ≤ 1125899906842624) (hi : 0 ≤ id ∧ id ≤ 255) : armV (fullL 256 due) ⟨id, 0, due⟩ = (fullL 256 due, 32) := by
  unfold armV
  rw [if_neg (Classical.not_not.mpr hd)]
  show (if (findT id (fullL 256 due)).isSome = true then _ else _) = _
  rw [full_some hi.1 (by omega)]
  rfl
theorem full_dlen {due id : Int} (hi : 0 ≤ id ∧ id ≤ 255) : (dropT id (fullL 256 due)).length = 255 := by
  have := dropT_len (full_some (due := due) hi.1 (by omega : id < (256 : Nat)))
  rw [full_len] at this
  omega
theorem full_a3 {due id : Int} (hd : 0 ≤ due ∧ due ≤ 1125899906842624) (hi : 0 ≤ id ∧ id ≤ 255) : armV (dropT id (fullL 256 due)) ⟨1000, 0, due⟩ = (dropT id (fullL 256 due) ++ [⟨1000, 0, due⟩], 0) := by
  unfold armV
  rw [if_neg (Classical.not_not.mpr hd), if_neg, if_neg (by rw [full_dlen hi]; omega)]
  intro h
  obtain ⟨u, hu⟩ := Option.isSome_iff_exists.mp h
  have h1 := findT_some hu
  obtain ⟨k, hk, rfl⟩ := full_mem.mp (dropT_sub.subset h1.1)
  have e : (k : Int) = 1000 := h1.2
  omega
theorem full_a4 {due id : Int} (hd : 0 ≤ due ∧ due ≤ 1125899906842624) (hi : 0 ≤ id ∧ id ≤ 255) : armV (dropT id (fullL 256 due) ++ [⟨1000, 0, due⟩]) ⟨id, 0, due⟩ = (dropT id (fullL 256 due) ++ [⟨1000, 0, due⟩], 30) := by
  unfold armV
  rw [if_neg (Classical.not_not.mpr hd), if_neg, if_pos (by rw [List.length_append, full_dlen hi]; simp)]
  intro h
  obtain ⟨u, hu⟩ := Option.isSome_iff_exists.mp h
  have h1 := findT_some hu
  rcases List.mem_append.mp h1.1 with q | q
  · exact ((mem_dropT (full_ids 256 due)).mp q).2 h1.2
  · rw [List.mem_singleton.mp q] at h1
    have e : (1000 : Int) = id := h1.2
    omega

/-! curfew/curfewlaw12.WheelFull -/
set_option maxRecDepth 20000 in
theorem WheelFull_c (now due id : Int) (w : World) (hid : 0 ≤ id ∧ id ≤ 255) : Does Try.prog 5 #[.int .i64 now, .int .i64 due, .int .u8 id] w (fun v w' => v = .bool true ∧ SH w noBlocks [] w') := by
  refine does_enter3 Try.func5 rfl Try.ntmps5 rfl ?_
  have H := SH.start w noBlocks
  refine tr_seq (fun K1 hK1 => ?_)
  -- region 0: law.go:154
  refine tr_region ?_
  refine tr_val (ov_assign rfl rfl) rfl rfl rfl ?_
  refine tr_nil (hK1 _ _ (TrC.keep [6, 0, 1, 2] ?_))
  show TrC _ _ _ _ [(6, _), (0, _), (1, _), (2, _)] _ _
  refine tr_seq (fun K2 hK2 => ?_)
  refine tr_seq (fun K3 hK3 => ?_)
  -- region 1: law.go:155
  refine tr_region ?_
  refine tr_val (ov_move rfl rfl) rfl rfl rfl ?_
  refine tr_val (ov_lss rfl rfl rfl) rfl rfl rfl ?_
  refine tr_val (ov_move rfl rfl) rfl rfl rfl ?_
  refine tr_split (t := 14) rfl (fun s14 => ?_) (fun s14 => ?_)
  · skip
    refine tr_pass rfl rfl rfl ?_
    refine tr_pass rfl rfl rfl ?_
    refine tr_val (ov_pick (vb := undef) rfl rfl rfl rfl) rfl rfl rfl ?_
    refine tr_val (ov_move rfl rfl) rfl rfl rfl ?_
    refine tr_pass rfl rfl rfl ?_
    refine tr_pass rfl rfl rfl ?_
    refine tr_val (ov_pick (vb := undef) rfl rfl rfl rfl) rfl rfl rfl ?_
    refine tr_val (ov_move rfl rfl) rfl rfl rfl ?_
    refine tr_pass rfl rfl rfl ?_
    refine tr_pass rfl rfl rfl ?_
    refine tr_val (ov_pick (vb := undef) rfl rfl rfl rfl) rfl rfl rfl ?_
    refine tr_nil (hK3 _ _ (TrC.keep [25, 6, 0, 1, 2] ?_))
    show TrC _ _ _ _ [(25, _), (6, _), (0, _), (1, _), (2, _)] _ _
    refine tr_cond_t rfl rfl ?_
    refine tr_seq (fun K4 hK4 => ?_)
    -- region 2: law.go:156
    refine tr_region ?_
    refine tr_call (lives12_c _) rfl rfl rfl Try.call13 rfl rfl rfl ?_
    rintro _ w1 ⟨rfl, HC⟩
    have H := H.call0n HC
    refine tr_val (ov_assign rfl rfl) rfl rfl rfl ?_
    refine tr_nil (hK4 _ _ (TrC.keep [6, 25, 0, 1, 2] ?_))
    show TrC _ _ _ _ [(6, _), (25, _), (0, _), (1, _), (2, _)] _ _
    refine tr_ret (post_ret1 (.inr rfl) rfl rfl ?_)
    exact ⟨rfl, H⟩
  · skip
    refine tr_val (ov_move rfl rfl) rfl rfl rfl ?_
    refine tr_val (ov_gtr rfl rfl rfl) rfl rfl rfl ?_
    refine tr_val (ov_pick_f (va := undef) rfl rfl rfl rfl) rfl rfl rfl ?_
    refine tr_val (ov_move rfl rfl) rfl rfl rfl ?_
    refine tr_split (t := 18) rfl (fun s18 => ?_) (fun s18 => ?_)
    · skip
      refine tr_pass rfl rfl rfl ?_
      refine tr_pass rfl rfl rfl ?_
      refine tr_val (ov_pick (vb := undef) rfl rfl rfl rfl) rfl rfl rfl ?_
      refine tr_val (ov_move rfl rfl) rfl rfl rfl ?_
      refine tr_pass rfl rfl rfl ?_
      refine tr_pass rfl rfl rfl ?_
      refine tr_val (ov_pick (vb := undef) rfl rfl rfl rfl) rfl rfl rfl ?_
      refine tr_nil (hK3 _ _ (TrC.keep [25, 6, 0, 1, 2] ?_))
      show TrC _ _ _ _ [(25, _), (6, _), (0, _), (1, _), (2, _)] _ _
      refine tr_cond_t rfl rfl ?_
      refine tr_seq (fun K5 hK5 => ?_)
      -- region 2: law.go:156
      refine tr_region ?_
      refine tr_call (lives12_c _) rfl rfl rfl Try.call13 rfl rfl rfl ?_
      rintro _ w2 ⟨rfl, HC⟩
      have H := H.call0n HC
      refine tr_val (ov_assign rfl rfl) rfl rfl rfl ?_
      refine tr_nil (hK5 _ _ (TrC.keep [6, 25, 0, 1, 2] ?_))
      show TrC _ _ _ _ [(6, _), (25, _), (0, _), (1, _), (2, _)] _ _
      refine tr_ret (post_ret1 (.inr rfl) rfl rfl ?_)
      exact ⟨rfl, H⟩
    · skip
      refine tr_val (ov_move rfl rfl) rfl rfl rfl ?_
      refine tr_val (ov_lss rfl rfl rfl) rfl rfl rfl ?_
      refine tr_val (ov_pick_f (va := undef) rfl rfl rfl rfl) rfl rfl rfl ?_
      refine tr_val (ov_move rfl rfl) rfl rfl rfl ?_
      refine tr_split (t := 22) rfl (fun s22 => ?_) (fun s22 => ?_)
      · skip
        refine tr_pass rfl rfl rfl ?_
        refine tr_pass rfl rfl rfl ?_
        refine tr_val (ov_pick (vb := undef) rfl rfl rfl rfl) rfl rfl rfl ?_
        refine tr_nil (hK3 _ _ (TrC.keep [25, 6, 0, 1, 2] ?_))
        show TrC _ _ _ _ [(25, _), (6, _), (0, _), (1, _), (2, _)] _ _
        refine tr_cond_t rfl rfl ?_
        refine tr_seq (fun K6 hK6 => ?_)
        -- region 2: law.go:156
        refine tr_region ?_
        refine tr_call (lives12_c _) rfl rfl rfl Try.call13 rfl rfl rfl ?_
        rintro _ w3 ⟨rfl, HC⟩
        have H := H.call0n HC
        refine tr_val (ov_assign rfl rfl) rfl rfl rfl ?_
        refine tr_nil (hK6 _ _ (TrC.keep [6, 25, 0, 1, 2] ?_))
        show TrC _ _ _ _ [(6, _), (25, _), (0, _), (1, _), (2, _)] _ _
        refine tr_ret (post_ret1 (.inr rfl) rfl rfl ?_)
        exact ⟨rfl, H⟩
      · skip
        refine tr_val (ov_move rfl rfl) rfl rfl rfl ?_
        refine tr_val (ov_gtr rfl rfl rfl) rfl rfl rfl ?_
        refine tr_val (ov_pick_f (va := undef) rfl rfl rfl rfl) rfl rfl rfl ?_
        refine tr_nil (hK3 _ _ (TrC.keep [25, 6, 0, 1, 2] ?_))
        show TrC _ _ _ _ [(25, _), (6, _), (0, _), (1, _), (2, _)] _ _
        refine tr_cond rfl (fun c25 => ?_) (fun c25 => ?_)
        · skip
          refine tr_seq (fun K7 hK7 => ?_)
          -- region 2: law.go:156
          refine tr_region ?_
          refine tr_call (lives12_c _) rfl rfl rfl Try.call13 rfl rfl rfl ?_
          rintro _ w4 ⟨rfl, HC⟩
          have H := H.call0n HC
          refine tr_val (ov_assign rfl rfl) rfl rfl rfl ?_
          refine tr_nil (hK7 _ _ (TrC.keep [6, 25, 0, 1, 2] ?_))
          show TrC _ _ _ _ [(6, _), (25, _), (0, _), (1, _), (2, _)] _ _
          refine tr_ret (post_ret1 (.inr rfl) rfl rfl ?_)
          exact ⟨rfl, H⟩
        · skip
          refine tr_skip (hK2 _ _ (TrC.keep [25, 6, 0, 1, 2] ?_))
          show TrC _ _ _ _ [(25, _), (6, _), (0, _), (1, _), (2, _)] _ _
          refine tr_seq (fun K8 hK8 => ?_)
          -- region 3: law.go:158
          refine tr_region ?_
          refine tr_val (ov_move rfl rfl) rfl rfl rfl ?_
          refine tr_call (wNew_c now _ (by omega)) rfl rfl rfl Try.call14 rfl rfl rfl ?_
          rintro _ w5 ⟨d, L0, rfl, hX0, HC⟩
          have H := H.call0r HC
          have hd : 0 ≤ due ∧ due ≤ 1125899906842624 := by omega
          refine tr_val (ov_assign rfl rfl) rfl rfl rfl ?_
          refine tr_nil (hK8 _ _ (TrC.keep [7, 25, 6, 0, 1, 2] ?_))
          show TrC _ _ _ _ [(7, _), (25, _), (6, _), (0, _), (1, _), (2, _)] _ _
          refine tr_seq (fun K9 hK9 => ?_)
          refine tr_seq (fun K10 hK10 => ?_)
          -- region 4: law.go:159
          refine tr_region ?_
          refine tr_val (ov_move rfl rfl) rfl rfl rfl ?_
          refine tr_nil (hK10 _ _ (TrC.keep [29, 7, 25, 6, 0, 1, 2] ?_))
          show TrC _ _ _ _ [(29, _), (7, _), (25, _), (6, _), (0, _), (1, _), (2, _)] _ _
          refine tr_block ?_
          refine tr_loop_ (X := Int × List Res) [7, 25, 0, 1, 2] (fun ⟨i, L⟩ => [(29, .int .u64 i)]) (fun ⟨i, L⟩ w' => 0 ≤ i ∧ i ≤ 256 ∧ WheelX 65 117 161 30 d now (fullL i.toNat due) L ∧ SH w noBlocks [pack L] w') (fun ⟨i, L⟩ => (256 - i).toNat) (⟨0, L0⟩) (Sub.cons rfl (Sub.cons rfl (Sub.cons rfl (Sub.cons rfl (Sub.cons rfl (Sub.cons rfl Sub.nil)))))) (⟨by omega, by omega, hX0, H⟩) ?_
          rintro ⟨i, L⟩ w6 ⟨hi0, hi1, hX, H⟩ K11 hK11
          show TrC _ _ _ _ [(29, _), (7, _), (25, _), (0, _), (1, _), (2, _)] _ _
          refine tr_seq (fun K12 hK12 => ?_)
          -- region 5: law.go:159
          refine tr_region ?_
          refine tr_val (ov_lss rfl rfl rfl) rfl rfl rfl ?_
          refine tr_nil (hK12 _ _ (TrC.keep [30, 29, 7, 25, 0, 1, 2] ?_))
          show TrC _ _ _ _ [(30, _), (29, _), (7, _), (25, _), (0, _), (1, _), (2, _)] _ _
          refine tr_seq (fun K13 hK13 => ?_)
          refine tr_cond rfl (fun c30 => ?_) (fun c30 => ?_)
          · skip
            refine tr_skip (hK13 _ _ (TrC.keep [30, 29, 7, 25, 0, 1, 2] ?_))
            show TrC _ _ _ _ [(30, _), (29, _), (7, _), (25, _), (0, _), (1, _), (2, _)] _ _
            refine tr_seq (fun K14 hK14 => ?_)
            refine tr_block ?_
            refine tr_seq (fun K15 hK15 => ?_)
            -- region 6: law.go:159
            refine tr_region ?_
            refine tr_val (ov_move rfl rfl) rfl rfl rfl ?_
            refine tr_val (ov_assign rfl rfl) rfl rfl rfl ?_
            refine tr_nil (hK15 _ _ (TrC.keep [8, 30, 29, 7, 25, 0, 1, 2] ?_))
            show TrC _ _ _ _ [(8, _), (30, _), (29, _), (7, _), (25, _), (0, _), (1, _), (2, _)] _ _
            refine tr_seq (fun K16 hK16 => ?_)
            -- region 7: law.go:160
            refine tr_region ?_
            refine tr_val (ov_move rfl rfl) rfl rfl rfl ?_
            refine tr_val (ov_move rfl rfl) rfl rfl rfl ?_
            refine tr_val (ov_move rfl rfl) rfl rfl rfl ?_
            refine tr_val (ov_build rfl (fun ρ k => bs2 k rfl rfl) (bld30_0_2 _ _ _)) rfl rfl rfl ?_
            refine tr_call (wArm_c d now (fullL i.toNat due) L _ hX H.get0 ⟨i, 0, due⟩) rfl rfl rfl Try.call15 rfl rfl rfl ?_
            rintro _ w7 ⟨rfl, L1, hX1, HC⟩
            have H := H.call1 HC
            rw [full_arm hd hi0 (by omega)] at hX1 ⊢
            refine tr_val (ov_neq rfl rfl rfl) rfl rfl rfl ?_
            refine tr_nil (hK16 _ _ (TrC.keep [37, 30, 29, 7, 25, 0, 1, 2] ?_))
            show TrC _ _ _ _ [(37, _), (30, _), (29, _), (7, _), (25, _), (0, _), (1, _), (2, _)] _ _
            refine tr_cond rfl (fun c37 => ?_) (fun c37 => ?_)
            · exact absurd rfl c37
            · skip
              refine tr_skip (hK14 _ _ (TrC.keep [37, 30, 29, 7, 25, 0, 1, 2] ?_))
              show TrC _ _ _ _ [(37, _), (30, _), (29, _), (7, _), (25, _), (0, _), (1, _), (2, _)] _ _
              -- region 9: law.go:159
              refine tr_region ?_
              refine tr_val (ov_add rfl rfl rfl (wu64 (by omega))) rfl rfl rfl ?_
              refine tr_val (ov_move rfl rfl) rfl rfl rfl ?_
              skip
              exact tr_nil (hK11 (⟨i + 1, L1⟩) _ _ (⟨by omega, by omega, hX1, H⟩) (by (dsimp only; omega)) (Sub.cons rfl (Sub.cons rfl (Sub.cons rfl (Sub.cons rfl (Sub.cons rfl (Sub.cons rfl Sub.nil)))))))
          · skip
            refine tr_exit (hK9 _ _ (TrC.keep [30, 29, 7, 25, 0, 1, 2] ?_))
            show TrC _ _ _ _ [(30, _), (29, _), (7, _), (25, _), (0, _), (1, _), (2, _)] _ _
            refine tr_seq (fun K17 hK17 => ?_)
            -- region 10: law.go:164
            have hi : i = 256 := by omega
            subst hi
            change WheelX 65 117 161 30 d now (fullL 256 due) L at hX
            refine tr_region ?_
            refine tr_val (ov_move rfl rfl) rfl rfl rfl ?_
            refine tr_val (ov_build rfl (fun ρ k => bs2 k rfl rfl) (bld30_0_2 _ _ _)) rfl rfl rfl ?_
            refine tr_alloc H rfl (Try.zeroValue30 _) rfl rfl rfl rfl ?_
            intro b1 w8 hb1 H
            (refine tr_storeW H.get0 rfl (Try.sizeOf30 _) rfl rfl rfl rfl rfl rfl rfl rfl ?_; intro w9 U; have H := H.upd0 U; clear U)
            refine tr_nil (hK17 _ _ (TrC.keep [9, 30, 29, 7, 25, 0, 1, 2] ?_))
            show TrC _ _ _ _ [(9, _), (30, _), (29, _), (7, _), (25, _), (0, _), (1, _), (2, _)] _ _
            refine tr_seq (fun K18 hK18 => ?_)
            refine tr_seq (fun K19 hK19 => ?_)
            -- region 11: law.go:165
            refine tr_region ?_
            refine tr_val (ov_move rfl rfl) rfl rfl rfl ?_
            refine tr_val (ov_load_blkN H.get0 rfl (Try.isAgg30 _) (Try.sizeOf30 _) rfl rfl rfl) rfl rfl rfl ?_
            refine tr_call (wArm_c d now (fullL 256 due) L _ hX H.get1 ⟨1000, 0, due⟩) rfl rfl rfl Try.call15 rfl rfl rfl ?_
            rintro _ w10 ⟨rfl, L2, hX2, HC⟩
            have H := H.top1.call1 HC
            rw [full_a1 hd] at hX2 ⊢
            refine tr_val (ov_neq rfl rfl rfl) rfl rfl rfl ?_
            refine tr_val (ov_move rfl rfl) rfl rfl rfl ?_
            refine tr_split (t := 45) rfl (fun s45 => ?_) (fun s45 => ?_)
            · exact absurd rfl s45
            · skip
              refine tr_val (ov_move rfl rfl) rfl rfl rfl ?_
              refine tr_val (ov_move rfl rfl) rfl rfl rfl ?_
              refine tr_val (ov_conv rfl Try.underlying5 Try.underlying28 rfl (wu64 (by omega))) rfl rfl rfl ?_
              refine tr_val (ov_move rfl rfl) rfl rfl rfl ?_
              refine tr_val (ov_build rfl (fun ρ k => bs2 k rfl rfl) (bld30_0_2 _ _ _)) rfl rfl rfl ?_
              refine tr_call (wArm_c d now (fullL 256 due) L2 _ hX2 H.get0 ⟨id, 0, due⟩) rfl rfl rfl Try.call15 rfl rfl rfl ?_
              rintro _ w11 ⟨rfl, L3, hX3, HC⟩
              have H := H.call1 HC
              rw [full_a2 hd hid] at hX3 ⊢
              refine tr_val (ov_neq rfl rfl rfl) rfl rfl rfl ?_
              refine tr_val (ov_pick_f (va := undef) rfl rfl rfl rfl) rfl rfl rfl ?_
              refine tr_val (ov_move rfl rfl) rfl rfl rfl ?_
              refine tr_split (t := 54) rfl (fun s54 => ?_) (fun s54 => ?_)
              · exact absurd rfl s54
              · skip
                refine tr_val (ov_move rfl rfl) rfl rfl rfl ?_
                refine tr_call (wLen_c d now (fullL 256 due) L3 _ hX3 H.get0) rfl rfl rfl Try.call20 rfl rfl rfl ?_
                rintro _ w12 ⟨rfl, HC⟩
                have H := H.call0n HC
                rw [full_len]
                refine tr_val (ov_neq rfl rfl rfl) rfl rfl rfl ?_
                refine tr_val (ov_pick_f (va := undef) rfl rfl rfl rfl) rfl rfl rfl ?_
                refine tr_nil (hK19 _ _ (TrC.keep [58, 9, 30, 29, 7, 25, 0, 1, 2] ?_))
                show TrC _ _ _ _ [(58, _), (9, _), (30, _), (29, _), (7, _), (25, _), (0, _), (1, _), (2, _)] _ _
                refine tr_cond rfl (fun c58 => ?_) (fun c58 => ?_)
                · exact absurd rfl c58
                · skip
                  refine tr_skip (hK18 _ _ (TrC.keep [58, 9, 30, 29, 7, 25, 0, 1, 2] ?_))
                  show TrC _ _ _ _ [(58, _), (9, _), (30, _), (29, _), (7, _), (25, _), (0, _), (1, _), (2, _)] _ _
                  refine tr_seq (fun K20 hK20 => ?_)
                  -- region 13: law.go:168
                  refine tr_region ?_
                  refine tr_val (ov_move rfl rfl) rfl rfl rfl ?_
                  refine tr_val (ov_move rfl rfl) rfl rfl rfl ?_
                  refine tr_val (ov_conv rfl Try.underlying5 Try.underlying28 rfl (wu64 (by omega))) rfl rfl rfl ?_
                  refine tr_call (wCancel_c d now (fullL 256 due) L3 _ hX3 H.get0 id) rfl rfl rfl Try.call21 rfl rfl rfl ?_
                  rintro _ w13 ⟨rfl, L4, hX4, HC⟩
                  have H := H.call1 HC
                  rw [full_some hid.1 (by omega)]
                  refine tr_val (ov_move rfl rfl) rfl rfl rfl ?_
                  refine tr_val (ov_extract rfl rfl rfl) rfl rfl rfl ?_
                  refine tr_val (ov_extract rfl rfl rfl) rfl rfl rfl ?_
                  refine tr_alloc H rfl (Try.zeroValue30 _) rfl rfl rfl rfl ?_
                  intro b2 w14 hb2 H
                  (refine tr_storeW H.get0 rfl (Try.sizeOf30 _) rfl rfl rfl rfl rfl rfl rfl rfl ?_; intro w15 U; have H := H.upd0 U; clear U)
                  refine tr_val (ov_assign rfl rfl) rfl rfl rfl ?_
                  refine tr_nil (hK20 _ _ (TrC.keep [11, 58, 9, 30, 29, 7, 25, 0, 1, 2] ?_))
                  show TrC _ _ _ _ [(11, _), (58, _), (9, _), (30, _), (29, _), (7, _), (25, _), (0, _), (1, _), (2, _)] _ _
                  refine tr_seq (fun K21 hK21 => ?_)
                  -- region 14: law.go:169
                  refine tr_region ?_
                  refine tr_val (ov_move rfl rfl) rfl rfl rfl ?_
                  refine tr_val (ov_move rfl rfl) rfl rfl rfl ?_
                  refine tr_splitb (t := 67) rfl (fun s67 => ?_) (fun s67 => ?_)
                  · skip
                    refine tr_val (ov_move rfl rfl) rfl rfl rfl ?_
                    refine tr_val (ov_load_blkN H.get2 rfl (Try.isAgg30 _) (Try.sizeOf30 _) rfl rfl rfl) rfl rfl rfl ?_
                    refine tr_call (wArm_c d now (dropT id (fullL 256 due)) L4 _ hX4 H.get1 ⟨1000, 0, due⟩) rfl rfl rfl Try.call15 rfl rfl rfl ?_
                    rintro _ w16 ⟨rfl, L5, hX5, HC⟩
                    have H := H.top1.call1 HC
                    rw [full_a3 hd hid] at hX5 ⊢
                    refine tr_val (ov_eql rfl rfl rfl) rfl rfl rfl ?_
                    refine tr_val (ov_pick (vb := undef) rfl rfl rfl rfl) rfl rfl rfl ?_
                    refine tr_val (ov_move rfl rfl) rfl rfl rfl ?_
                    refine tr_split (t := 73) rfl (fun s73 => ?_) (fun s73 => ?_)
                    · skip
                      refine tr_val (ov_move rfl rfl) rfl rfl rfl ?_
                      refine tr_val (ov_move rfl rfl) rfl rfl rfl ?_
                      refine tr_val (ov_conv rfl Try.underlying5 Try.underlying28 rfl (wu64 (by omega))) rfl rfl rfl ?_
                      refine tr_val (ov_move rfl rfl) rfl rfl rfl ?_
                      refine tr_val (ov_build rfl (fun ρ k => bs2 k rfl rfl) (bld30_0_2 _ _ _)) rfl rfl rfl ?_
                      refine tr_call (wArm_c d now ((dropT id (fullL 256 due)) ++ [⟨1000, 0, due⟩]) L5 _ hX5 H.get0 ⟨id, 0, due⟩) rfl rfl rfl Try.call15 rfl rfl rfl ?_
                      rintro _ w17 ⟨rfl, L6, hX6, HC⟩
                      have H := H.call1 HC
                      rw [full_a4 hd hid] at hX6 ⊢
                      refine tr_val (ov_eql rfl rfl rfl) rfl rfl rfl ?_
                      refine tr_val (ov_pick (vb := undef) rfl rfl rfl rfl) rfl rfl rfl ?_
                      refine tr_val (ov_move rfl rfl) rfl rfl rfl ?_
                      refine tr_split (t := 82) rfl (fun s82 => ?_) (fun s82 => ?_)
                      · skip
                        refine tr_call (lives12_c _) rfl rfl rfl Try.call13 rfl rfl rfl ?_
                        rintro _ w18 ⟨rfl, HC⟩
                        have H := H.call0n HC
                        refine tr_val (ov_pick (vb := undef) rfl rfl rfl rfl) rfl rfl rfl ?_
                        refine tr_val (ov_assign rfl rfl) rfl rfl rfl ?_
                        refine tr_nil (hK21 _ _ (TrC.keep [6, 58, 9, 30, 29, 7, 25, 0, 1, 2] ?_))
                        show TrC _ _ _ _ [(6, _), (58, _), (9, _), (30, _), (29, _), (7, _), (25, _), (0, _), (1, _), (2, _)] _ _
                        refine tr_ret (post_ret1 (.inr rfl) rfl rfl ?_)
                        exact ⟨rfl, H.drop0.drop0.drop0⟩
                      · exact absurd rfl s82
                    · exact absurd rfl s73
                  · cases s67

end Go.Proofs.Ytblipnjjgbggiaa
