/- Contracts of wheel.Wheel: Plain and Same of law 13; DeadlineNobody. Conditions: none. -/
import Derived.Test.YtblipnjjgbggiaaDlA
import Derived.Test.YtblipnjjgbggiaaWheelR
namespace Go.Proofs.Ytblipnjjgbggiaa
open Go Go.RowKit
set_option linter.unusedVariables false
set_option linter.unusedSimpArgs false

theorem zR_take {X : List Thing} {i : Int} (h0 : 0 ≤ i) (h1 : i < X.length) : zR (X.take i.toNat) ++ [toR (gt X i) 0] = zR (X.take (i + 1).toNat) := by rw [zR_snoc, take_gt h0 h1]

/-! curfew/curfewlaw13.Plain -/
set_option maxRecDepth 20000 in
theorem Plain13_c (B : Option Addr) (c : Nat) (X : List Thing) (now last : Int) (w : World) (hR : Rd w B 3 (X.map encThing)) (hl : X.length ≤ 60000) : Does Try.prog 36 #[.agg #[.int .i64 now, .int .u64 last, .slice B (X).length c]] w (fun v w' => ∃ A' c', v = .agg #[.int .i64 now, .int .u64 last, .slice A' ((zR X)).length c'] ∧ SH w noBlocks [vec A' c' 59 4 encRThing (zR X)] w') := by
  refine does_enter1 Try.func36 rfl Try.ntmps36 rfl ?_
  have H := SH.start w noBlocks
  refine tr_seq (fun K1 hK1 => ?_)
  -- region 0: law.go:26
  refine tr_region ?_
  refine tr_box H rfl rfl rfl rfl rfl rfl ?_
  intro b1 w1 hb1 H
  refine tr_alloc H rfl (Try.zeroValue85 _) rfl rfl rfl rfl ?_
  intro b2 w2 hb2 H
  refine tr_nil (hK1 _ _ (TrC.keep [2, 1] ?_))
  show TrC _ _ _ _ [(2, _), (1, _)] _ _
  refine tr_seq (fun K2 hK2 => ?_)
  -- region 1: law.go:27
  refine tr_region ?_
  refine tr_val (ov_fieldAddr rfl Try.underlying78 rfl (Try.sizeOf2 _) (by decide) rfl) rfl rfl rfl ?_
  refine tr_val (ov_load_blk H.get1 rfl (Try.isAgg2 _) rfl rfl rfl) rfl rfl rfl ?_
  refine tr_val (ov_fieldAddr rfl Try.underlying78 rfl (Try.sizeOf28 _) (by decide) rfl) rfl rfl rfl ?_
  refine tr_val (ov_load_blk H.get1 rfl (Try.isAgg28 _) rfl rfl rfl) rfl rfl rfl ?_
  refine tr_val (ov_build rfl (fun ρ k => bs2 k rfl rfl) (bld85_0_1 _ _ _)) rfl rfl rfl ?_
  refine tr_alloc H rfl (Try.zeroValue85 _) rfl rfl rfl rfl ?_
  intro b3 w3 hb3 H
  (refine tr_storeW H.get0 rfl (Try.sizeOf85 _) rfl rfl rfl rfl rfl rfl rfl rfl ?_; intro w4 U; have H := H.upd0 U; clear U)
  refine tr_nil (hK2 _ _ (TrC.keep [3, 2, 1] ?_))
  show TrC _ _ _ _ [(3, _), (2, _), (1, _)] _ _
  refine tr_seq (fun K3 hK3 => ?_)
  refine tr_seq (fun K4 hK4 => ?_)
  -- region 2: law.go:28
  have H := H.addNil 59 4 encRThing
  refine tr_region ?_
  refine tr_val (ov_fieldAddr rfl Try.underlying78 rfl (Try.sizeOf32 _) (by decide) rfl) rfl rfl rfl ?_
  refine tr_val (ov_load_blk H.get3 rfl (Try.isAgg32 _) rfl rfl rfl) rfl rfl rfl ?_
  refine tr_val (ov_len rfl rfl Try.underlying32 rfl) rfl rfl rfl ?_
  refine tr_val (ov_move rfl rfl) rfl rfl rfl ?_
  refine tr_nil (hK4 _ _ (TrC.keep [14, 13, 12, 3, 2, 1] ?_))
  show TrC _ _ _ _ [(14, _), (13, _), (12, _), (3, _), (2, _), (1, _)] _ _
  refine tr_block ?_
  refine tr_loop_ (X := Int × Option Addr × Nat) [13, 12, 3, 2, 1] (fun ⟨i, A1, c1⟩ => [(14, .int .i64 i)]) (fun ⟨i, A1, c1⟩ w' => 0 ≤ i ∧ i ≤ X.length ∧ SH w noBlocks [vec A1 c1 59 4 encRThing (zR (X.take i.toNat)), blk b3 85 [.int .i64 now, .int .u64 last, .slice A1 ((zR (X.take i.toNat))).length c1], blk b2 85 [.int .i64 0, .int .u64 0, .slice none 0 0], blk b1 78 [.int .i64 now, .int .u64 last, .slice B (X).length c]] w') (fun ⟨i, A1, c1⟩ => (X.length - i).toNat) (⟨0, none, 0⟩) (Sub.cons rfl (Sub.cons rfl (Sub.cons rfl (Sub.cons rfl (Sub.cons rfl (Sub.cons rfl Sub.nil)))))) (⟨by omega, by omega, H⟩) ?_
  rintro ⟨i, A1, c1⟩ w5 ⟨hi0, hi1, H⟩ K5 hK5
  show TrC _ _ _ _ [(14, _), (13, _), (12, _), (3, _), (2, _), (1, _)] _ _
  refine tr_seq (fun K6 hK6 => ?_)
  -- region 3: law.go:28
  refine tr_region ?_
  refine tr_val (ov_lss rfl rfl rfl) rfl rfl rfl ?_
  refine tr_nil (hK6 _ _ (TrC.keep [15, 14, 13, 12, 3, 2, 1] ?_))
  show TrC _ _ _ _ [(15, _), (14, _), (13, _), (12, _), (3, _), (2, _), (1, _)] _ _
  refine tr_seq (fun K7 hK7 => ?_)
  refine tr_cond rfl (fun c15 => ?_) (fun c15 => ?_)
  · skip
    refine tr_skip (hK7 _ _ (TrC.keep [15, 14, 13, 12, 3, 2, 1] ?_))
    show TrC _ _ _ _ [(15, _), (14, _), (13, _), (12, _), (3, _), (2, _), (1, _)] _ _
    refine tr_seq (fun K8 hK8 => ?_)
    refine tr_block ?_
    refine tr_seq (fun K9 hK9 => ?_)
    -- region 4: law.go:28
    refine tr_region ?_
    refine tr_val (ov_indexAddrR (H.rd0 hR) rfl Try.underlying32 (Try.sizeOf30 _) rfl rfl (by omega) (by omega)) rfl rfl rfl ?_
    refine tr_val (ld_Thing (H.rd0 hR) rfl (Try.isAgg30 _) (Try.sizeOf30 _) rfl (by omega) (by omega)) rfl rfl rfl ?_
    refine tr_alloc H rfl (Try.zeroValue30 _) rfl rfl rfl rfl ?_
    intro b4 w6 hb4 H
    (refine tr_storeW H.get0 rfl (Try.sizeOf30 _) rfl rfl rfl rfl rfl rfl rfl rfl ?_; intro w7 U; have H := H.upd0 U; clear U)
    refine tr_nil (hK9 _ _ (TrC.keep [5, 15, 14, 13, 12, 3, 2, 1] ?_))
    show TrC _ _ _ _ [(5, _), (15, _), (14, _), (13, _), (12, _), (3, _), (2, _), (1, _)] _ _
    -- region 5: law.go:29
    have hzl := zR_len (X.take i.toNat)
    have htl : (X.take i.toNat).length = i.toNat := takeN hi0 (by omega)
    refine tr_held (fun w' => (blk b4 30 [.int .u64 (gt X i).id, .int .u64 (gt X i).gen, .int .i64 (gt X i).due]).holds w') mixed rfl H ?_
    intro w8 H
    refine th_take 0 rfl (by kernel_rfl) (by kernel_rfl) (by kernel_rfl) ((by exact H.get0)) (fun _ hS => ov_fieldAddr rfl Try.underlying85 rfl (Try.sizeOf46 _) (by decide) rfl) rfl rfl rfl ?_
    refine th_take 2 rfl (by kernel_rfl) (by kernel_rfl) (by kernel_rfl) ((by exact H.get0)) (fun _ hS => ov_load_blkN hS rfl (Try.isAgg30 _) (Try.sizeOf30 _) rfl rfl rfl) rfl rfl rfl ?_
    refine th_two 1 3 (by kernel_rfl) ?_ ?_
    · skip
      refine tw_val (ov_load_blk H.get2 rfl (Try.isAgg46 _) rfl rfl rfl) rfl ((by exact H.get0)) rfl rfl rfl ?_
      refine th_one 3 (by kernel_rfl) ?_
      refine tw_call (Plain_c (gt X i) _) rfl rfl rfl rfl Try.call65 rfl rfl rfl ?_
      rintro _ w9 ⟨rfl, HC⟩
      have H := H.call0n HC
      refine ⟨(by exact H.get0), ?_⟩
      refine th_one 4 (by kernel_rfl) ?_
      refine tw_buildSlice H rfl rfl Try.underlying46 info59 rfl (fun ρ k => bs1 k rfl) (by decide) (by decide) (fill_RThing_1 _ _ _ _) rfl rfl rfl ?_
      intro b7 w7 hb7 H
      refine ⟨(by exact H.get1), ?_⟩
      refine th_one 5 (by kernel_rfl) ?_
      refine tw_append (M := [toR (gt X i) 0]) (L := zR (X.take i.toNat)) H.get2 (rd_blk [toR (gt X i) 0] H.get0 rfl lenRThing) rfl rfl rfl rfl Try.underlying46 info59 rfl rfl (show Try.t59.bytes = 32 from rfl) rfl (by decide) lenRThing oneRThing (by rw [List.length_singleton]; omega) (by rw [List.length_singleton]; unfold maxLen; omega) rfl rfl rfl ?_
      intro A3 c3 w30 U; have H := H.upd2 U; clear U
      rw [zR_take hi0 (by omega)] at H ⊢
      refine ⟨H.get1, ?_⟩
      refine th_take 6 rfl (by kernel_rfl) (by kernel_rfl) (by kernel_rfl) ((by exact H.get1)) (fun _ hS => ov_fieldAddr rfl Try.underlying85 rfl (Try.sizeOf46 _) (by decide) rfl) rfl rfl rfl ?_
      refine th_one 7 (by kernel_rfl) ?_
      (refine tw_store H.get3 rfl rfl (Try.sizeOf46 _) rfl rfl rfl rfl rfl rfl rfl ?_; intro w10 U; have H := H.upd3 U; clear U)
      try simp only [List.set_cons_zero, List.set_cons_succ, Nat.zero_add] at H
      refine ⟨(by exact H.get1), ?_⟩
      refine th_done (by kernel_rfl) ?_
      refine hK8 _ _ (TrC.keep [5, 15, 14, 13, 12, 3, 2, 1] ?_)
      show TrC _ _ _ _ [(5, _), (15, _), (14, _), (13, _), (12, _), (3, _), (2, _), (1, _)] _ _
      -- region 6: law.go:28
      refine tr_region ?_
      refine tr_val (ov_add rfl rfl rfl (w64 (by omega))) rfl rfl rfl ?_
      refine tr_val (ov_move rfl rfl) rfl rfl rfl ?_
      skip
      exact tr_nil (hK5 (⟨i + 1, A3, c3⟩) _ _ (⟨by omega, by omega, H.drop0.drop0⟩) (by (dsimp only; omega)) (Sub.cons rfl (Sub.cons rfl (Sub.cons rfl (Sub.cons rfl (Sub.cons rfl (Sub.cons rfl Sub.nil)))))))
    · skip
      refine tw_call (Plain_c (gt X i) _) rfl rfl rfl rfl Try.call65 rfl rfl rfl ?_
      rintro _ w11 ⟨rfl, HC⟩
      have H := H.call0n HC
      refine ⟨(by exact H.get0), ?_⟩
      refine th_two 1 4 (by kernel_rfl) ?_ ?_
      · skip
        refine tw_val (ov_load_blk H.get2 rfl (Try.isAgg46 _) rfl rfl rfl) rfl ((by exact H.get0)) rfl rfl rfl ?_
        refine th_one 4 (by kernel_rfl) ?_
        refine tw_buildSlice H rfl rfl Try.underlying46 info59 rfl (fun ρ k => bs1 k rfl) (by decide) (by decide) (fill_RThing_1 _ _ _ _) rfl rfl rfl ?_
        intro b7 w7 hb7 H
        refine ⟨(by exact H.get1), ?_⟩
        refine th_one 5 (by kernel_rfl) ?_
        refine tw_append (M := [toR (gt X i) 0]) (L := zR (X.take i.toNat)) H.get2 (rd_blk [toR (gt X i) 0] H.get0 rfl lenRThing) rfl rfl rfl rfl Try.underlying46 info59 rfl rfl (show Try.t59.bytes = 32 from rfl) rfl (by decide) lenRThing oneRThing (by rw [List.length_singleton]; omega) (by rw [List.length_singleton]; unfold maxLen; omega) rfl rfl rfl ?_
        intro A3 c3 w30 U; have H := H.upd2 U; clear U
        rw [zR_take hi0 (by omega)] at H ⊢
        refine ⟨H.get1, ?_⟩
        refine th_take 6 rfl (by kernel_rfl) (by kernel_rfl) (by kernel_rfl) ((by exact H.get1)) (fun _ hS => ov_fieldAddr rfl Try.underlying85 rfl (Try.sizeOf46 _) (by decide) rfl) rfl rfl rfl ?_
        refine th_one 7 (by kernel_rfl) ?_
        (refine tw_store H.get3 rfl rfl (Try.sizeOf46 _) rfl rfl rfl rfl rfl rfl rfl ?_; intro w12 U; have H := H.upd3 U; clear U)
        try simp only [List.set_cons_zero, List.set_cons_succ, Nat.zero_add] at H
        refine ⟨(by exact H.get1), ?_⟩
        refine th_done (by kernel_rfl) ?_
        refine hK8 _ _ (TrC.keep [5, 15, 14, 13, 12, 3, 2, 1] ?_)
        show TrC _ _ _ _ [(5, _), (15, _), (14, _), (13, _), (12, _), (3, _), (2, _), (1, _)] _ _
        -- region 6: law.go:28
        refine tr_region ?_
        refine tr_val (ov_add rfl rfl rfl (w64 (by omega))) rfl rfl rfl ?_
        refine tr_val (ov_move rfl rfl) rfl rfl rfl ?_
        skip
        exact tr_nil (hK5 (⟨i + 1, A3, c3⟩) _ _ (⟨by omega, by omega, H.drop0.drop0⟩) (by (dsimp only; omega)) (Sub.cons rfl (Sub.cons rfl (Sub.cons rfl (Sub.cons rfl (Sub.cons rfl (Sub.cons rfl Sub.nil)))))))
      · skip
        refine tw_buildSlice H rfl rfl Try.underlying46 info59 rfl (fun ρ k => bs1 k rfl) (by decide) (by decide) (fill_RThing_1 _ _ _ _) rfl rfl rfl ?_
        intro b7 w7 hb7 H
        refine ⟨(by exact H.get1), ?_⟩
        refine th_one 1 (by kernel_rfl) ?_
        refine tw_val (ov_load_blk H.get3 rfl (Try.isAgg46 _) rfl rfl rfl) rfl ((by exact H.get1)) rfl rfl rfl ?_
        refine th_one 5 (by kernel_rfl) ?_
        refine tw_append (M := [toR (gt X i) 0]) (L := zR (X.take i.toNat)) H.get2 (rd_blk [toR (gt X i) 0] H.get0 rfl lenRThing) rfl rfl rfl rfl Try.underlying46 info59 rfl rfl (show Try.t59.bytes = 32 from rfl) rfl (by decide) lenRThing oneRThing (by rw [List.length_singleton]; omega) (by rw [List.length_singleton]; unfold maxLen; omega) rfl rfl rfl ?_
        intro A3 c3 w30 U; have H := H.upd2 U; clear U
        rw [zR_take hi0 (by omega)] at H ⊢
        refine ⟨H.get1, ?_⟩
        refine th_take 6 rfl (by kernel_rfl) (by kernel_rfl) (by kernel_rfl) ((by exact H.get1)) (fun _ hS => ov_fieldAddr rfl Try.underlying85 rfl (Try.sizeOf46 _) (by decide) rfl) rfl rfl rfl ?_
        refine th_one 7 (by kernel_rfl) ?_
        (refine tw_store H.get3 rfl rfl (Try.sizeOf46 _) rfl rfl rfl rfl rfl rfl rfl ?_; intro w13 U; have H := H.upd3 U; clear U)
        try simp only [List.set_cons_zero, List.set_cons_succ, Nat.zero_add] at H
        refine ⟨(by exact H.get1), ?_⟩
        refine th_done (by kernel_rfl) ?_
        refine hK8 _ _ (TrC.keep [5, 15, 14, 13, 12, 3, 2, 1] ?_)
        show TrC _ _ _ _ [(5, _), (15, _), (14, _), (13, _), (12, _), (3, _), (2, _), (1, _)] _ _
        -- region 6: law.go:28
        refine tr_region ?_
        refine tr_val (ov_add rfl rfl rfl (w64 (by omega))) rfl rfl rfl ?_
        refine tr_val (ov_move rfl rfl) rfl rfl rfl ?_
        skip
        exact tr_nil (hK5 (⟨i + 1, A3, c3⟩) _ _ (⟨by omega, by omega, H.drop0.drop0⟩) (by (dsimp only; omega)) (Sub.cons rfl (Sub.cons rfl (Sub.cons rfl (Sub.cons rfl (Sub.cons rfl (Sub.cons rfl Sub.nil)))))))
  · skip
    refine tr_exit (hK3 _ _ (TrC.keep [15, 14, 13, 12, 3, 2, 1] ?_))
    show TrC _ _ _ _ [(15, _), (14, _), (13, _), (12, _), (3, _), (2, _), (1, _)] _ _
    refine tr_seq (fun K10 hK10 => ?_)
    -- region 7: law.go:31
    have e : X.take i.toNat = X := List.take_of_length_le (by omega)
    rw [e] at H
    refine tr_region ?_
    refine tr_val (ov_load_blkN H.get1 rfl (Try.isAgg85 _) (Try.sizeOf85 _) rfl rfl rfl) rfl rfl rfl ?_
    (refine tr_storeW H.get2 rfl (Try.sizeOf85 _) rfl rfl rfl rfl rfl rfl rfl rfl ?_; intro w14 U; have H := H.upd2 U; clear U)
    refine tr_nil (hK10 _ _ (TrC.keep [15, 14, 13, 12, 3, 2, 1] ?_))
    show TrC _ _ _ _ [(15, _), (14, _), (13, _), (12, _), (3, _), (2, _), (1, _)] _ _
    refine tr_ret (post_ret1 (.inr rfl) rfl (by exact ⟨_, rfl, res_blkN H.get2 (Try.isAgg85 _) (Try.sizeOf85 _) rfl rfl⟩) ?_)
    exact ⟨A1, c1, rfl, H.drop1.drop1.drop1⟩

theorem take_eq_step {W W2 : List RThing} {i : Int} (h0 : 0 ≤ i) (h1 : i < W.length) (hl : W.length = W2.length) (hx : W.take i.toNat = W2.take i.toNat) (h : gt W i = gt W2 i) : W.take (i + 1).toNat = W2.take (i + 1).toNat := by
  rw [take_gt h0 h1, take_gt h0 (by omega), hx, h]

/-! curfew/curfewref13.Same -/
set_option maxRecDepth 20000 in
theorem Same13_c (B : Option Addr) (c : Nat) (W : List RThing) (n l : Int) (B2 : Option Addr) (c2 : Nat) (W2 : List RThing) (n2 l2 : Int) (w : World) (hR : Rd w B 4 (W.map encRThing)) (hR2 : Rd w B2 4 (W2.map encRThing)) (hl : W.length ≤ 60000) : Does Try.prog 39 #[.agg #[.int .i64 n, .int .u64 l, .slice B (W).length c], .agg #[.int .i64 n2, .int .u64 l2, .slice B2 (W2).length c2]] w (fun v w' => v = .bool (decide (n = n2 ∧ l = l2 ∧ W = W2)) ∧ SH w noBlocks [] w') := by
  refine does_enter2 Try.func39 rfl Try.ntmps39 rfl ?_
  have H := SH.start w noBlocks
  refine tr_seq (fun K1 hK1 => ?_)
  -- region 0: ref.go:77
  refine tr_region ?_
  refine tr_box H rfl rfl rfl rfl rfl rfl ?_
  intro b1 w1 hb1 H
  refine tr_box H rfl rfl rfl rfl rfl rfl ?_
  intro b2 w2 hb2 H
  refine tr_val (ov_assign rfl rfl) rfl rfl rfl ?_
  refine tr_nil (hK1 _ _ (TrC.keep [4, 3, 2] ?_))
  show TrC _ _ _ _ [(4, _), (3, _), (2, _)] _ _
  refine tr_seq (fun K2 hK2 => ?_)
  refine tr_seq (fun K3 hK3 => ?_)
  -- region 1: ref.go:78
  refine tr_cut [4, 3, 2] [(26, .bool (decide (n ≠ n2 ∨ l ≠ l2 ∨ W.length ≠ W2.length)))] (fun w' => SH w noBlocks [blk b2 85 [.int .i64 n2, .int .u64 l2, .slice B2 (W2).length c2], blk b1 85 [.int .i64 n, .int .u64 l, .slice B (W).length c]] w') (fun K4 hK4 => ?_) (fun w3 H => ?_)
  · skip
    refine tr_val (ov_fieldAddr rfl Try.underlying85 rfl (Try.sizeOf2 _) (by decide) rfl) rfl rfl rfl ?_
    refine tr_val (ov_load_blk H.get1 rfl (Try.isAgg2 _) rfl rfl rfl) rfl rfl rfl ?_
    refine tr_val (ov_fieldAddr rfl Try.underlying85 rfl (Try.sizeOf2 _) (by decide) rfl) rfl rfl rfl ?_
    refine tr_val (ov_load_blk H.get0 rfl (Try.isAgg2 _) rfl rfl rfl) rfl rfl rfl ?_
    refine tr_val (ov_neq rfl rfl rfl) rfl rfl rfl ?_
    refine tr_val (ov_move rfl rfl) rfl rfl rfl ?_
    refine tr_split (t := 11) rfl (fun s11 => ?_) (fun s11 => ?_)
    · skip
      refine tr_pass rfl rfl rfl ?_
      refine tr_pass rfl rfl rfl ?_
      refine tr_pass rfl rfl rfl ?_
      refine tr_pass rfl rfl rfl ?_
      refine tr_pass rfl rfl rfl ?_
      refine tr_val (ov_pick (vb := undef) rfl rfl rfl rfl) rfl rfl rfl ?_
      refine tr_val (ov_move rfl rfl) rfl rfl rfl ?_
      refine tr_pass rfl rfl rfl ?_
      refine tr_pass rfl rfl rfl ?_
      refine tr_pass rfl rfl rfl ?_
      refine tr_pass rfl rfl rfl ?_
      refine tr_pass rfl rfl rfl ?_
      refine tr_pass rfl rfl rfl ?_
      refine tr_pass rfl rfl rfl ?_
      refine tr_val (ov_pick (vb := undef) rfl rfl rfl rfl) rfl rfl rfl ?_
      exact tr_nil (hK4 _ _ (Sub.consE rfl (congrArg Value.bool (by exact eqT (by skip; omega))) (Sub.cons rfl (Sub.cons rfl (Sub.cons rfl Sub.nil)))) (H))
    · skip
      refine tr_val (ov_fieldAddr rfl Try.underlying85 rfl (Try.sizeOf28 _) (by decide) rfl) rfl rfl rfl ?_
      refine tr_val (ov_load_blk H.get1 rfl (Try.isAgg28 _) rfl rfl rfl) rfl rfl rfl ?_
      refine tr_val (ov_fieldAddr rfl Try.underlying85 rfl (Try.sizeOf28 _) (by decide) rfl) rfl rfl rfl ?_
      refine tr_val (ov_load_blk H.get0 rfl (Try.isAgg28 _) rfl rfl rfl) rfl rfl rfl ?_
      refine tr_val (ov_neq rfl rfl rfl) rfl rfl rfl ?_
      refine tr_val (ov_pick_f (va := undef) rfl rfl rfl rfl) rfl rfl rfl ?_
      refine tr_val (ov_move rfl rfl) rfl rfl rfl ?_
      refine tr_split (t := 18) rfl (fun s18 => ?_) (fun s18 => ?_)
      · skip
        refine tr_pass rfl rfl rfl ?_
        refine tr_pass rfl rfl rfl ?_
        refine tr_pass rfl rfl rfl ?_
        refine tr_pass rfl rfl rfl ?_
        refine tr_pass rfl rfl rfl ?_
        refine tr_pass rfl rfl rfl ?_
        refine tr_pass rfl rfl rfl ?_
        refine tr_val (ov_pick (vb := undef) rfl rfl rfl rfl) rfl rfl rfl ?_
        exact tr_nil (hK4 _ _ (Sub.consE rfl (congrArg Value.bool (by exact eqT (by skip; omega))) (Sub.cons rfl (Sub.cons rfl (Sub.cons rfl Sub.nil)))) (H))
      · skip
        refine tr_val (ov_fieldAddr rfl Try.underlying85 rfl (Try.sizeOf46 _) (by decide) rfl) rfl rfl rfl ?_
        refine tr_val (ov_load_blk H.get1 rfl (Try.isAgg46 _) rfl rfl rfl) rfl rfl rfl ?_
        refine tr_val (ov_len rfl rfl Try.underlying46 rfl) rfl rfl rfl ?_
        refine tr_val (ov_fieldAddr rfl Try.underlying85 rfl (Try.sizeOf46 _) (by decide) rfl) rfl rfl rfl ?_
        refine tr_val (ov_load_blk H.get0 rfl (Try.isAgg46 _) rfl rfl rfl) rfl rfl rfl ?_
        refine tr_val (ov_len rfl rfl Try.underlying46 rfl) rfl rfl rfl ?_
        refine tr_val (ov_neq rfl rfl rfl) rfl rfl rfl ?_
        refine tr_val (ov_pick_f (va := undef) rfl rfl rfl rfl) rfl rfl rfl ?_
        exact tr_nil (hK4 _ _ (Sub.consE rfl (congrArg Value.bool (by exact eqI (by skip; omega))) (Sub.cons rfl (Sub.cons rfl (Sub.cons rfl Sub.nil)))) (H))
  · skip
    refine hK3 _ _ (TrC.keep [26, 4, 3, 2] ?_)
    show TrC _ _ _ _ [(26, _), (4, _), (3, _), (2, _)] _ _
    refine tr_cond rfl (fun c26 => ?_) (fun c26 => ?_)
    · skip
      refine tr_seq (fun K5 hK5 => ?_)
      -- region 2: ref.go:79
      refine tr_region ?_
      refine tr_val (ov_assign rfl rfl) rfl rfl rfl ?_
      refine tr_nil (hK5 _ _ (TrC.keep [4, 26, 3, 2] ?_))
      show TrC _ _ _ _ [(4, _), (26, _), (3, _), (2, _)] _ _
      refine tr_ret (post_ret1 (.inr rfl) rfl rfl ?_)
      exact ⟨congrArg Value.bool (decide_eq_false (fun h => by obtain ⟨h1, h2, h3⟩ := h; subst h3; omega)).symm, H.drop0.drop0⟩
    · skip
      refine tr_skip (hK2 _ _ (TrC.keep [26, 4, 3, 2] ?_))
      show TrC _ _ _ _ [(26, _), (4, _), (3, _), (2, _)] _ _
      refine tr_seq (fun K6 hK6 => ?_)
      refine tr_seq (fun K7 hK7 => ?_)
      -- region 3: ref.go:81
      refine tr_region ?_
      refine tr_val (ov_assign rfl rfl) rfl rfl rfl ?_
      refine tr_nil (hK7 _ _ (TrC.keep [5, 26, 4, 3, 2] ?_))
      show TrC _ _ _ _ [(5, _), (26, _), (4, _), (3, _), (2, _)] _ _
      refine tr_block ?_
      refine tr_loop_ (X := Int) [26, 3, 2] (fun i => [(5, .int .i64 i)]) (fun i w' => 0 ≤ i ∧ i ≤ W.length ∧ W.take i.toNat = W2.take i.toNat ∧ SH w noBlocks [blk b2 85 [.int .i64 n2, .int .u64 l2, .slice B2 (W2).length c2], blk b1 85 [.int .i64 n, .int .u64 l, .slice B (W).length c]] w') (fun i => (W.length - i).toNat) (0) (Sub.cons rfl (Sub.cons rfl (Sub.cons rfl (Sub.cons rfl Sub.nil)))) (⟨by omega, by omega, by simp, H⟩) ?_
      rintro i w4 ⟨hi0, hi1, hx, H⟩ K8 hK8
      show TrC _ _ _ _ [(5, _), (26, _), (3, _), (2, _)] _ _
      refine tr_seq (fun K9 hK9 => ?_)
      refine tr_seq (fun K10 hK10 => ?_)
      -- region 4: ref.go:81
      refine tr_region ?_
      refine tr_val (ov_move rfl rfl) rfl rfl rfl ?_
      refine tr_val (ov_fieldAddr rfl Try.underlying85 rfl (Try.sizeOf46 _) (by decide) rfl) rfl rfl rfl ?_
      refine tr_val (ov_load_blk H.get1 rfl (Try.isAgg46 _) rfl rfl rfl) rfl rfl rfl ?_
      refine tr_val (ov_len rfl rfl Try.underlying46 rfl) rfl rfl rfl ?_
      refine tr_val (ov_lss rfl rfl rfl) rfl rfl rfl ?_
      refine tr_nil (hK10 _ _ (TrC.keep [31, 5, 26, 3, 2] ?_))
      show TrC _ _ _ _ [(31, _), (5, _), (26, _), (3, _), (2, _)] _ _
      refine tr_cond rfl (fun c31 => ?_) (fun c31 => ?_)
      · skip
        refine tr_skip (hK9 _ _ (TrC.keep [31, 5, 26, 3, 2] ?_))
        show TrC _ _ _ _ [(31, _), (5, _), (26, _), (3, _), (2, _)] _ _
        refine tr_seq (fun K11 hK11 => ?_)
        refine tr_block ?_
        refine tr_seq (fun K12 hK12 => ?_)
        -- region 6: ref.go:82
        refine tr_quiet mixed (by kernel_rfl) H ?_
        refine tq_val (fun _ H => ov_fieldAddr rfl Try.underlying85 rfl (Try.sizeOf46 _) (by decide) rfl) rfl rfl rfl ?_
        refine tq_val (fun _ H => ov_load_blk H.get1 rfl (Try.isAgg46 _) rfl rfl rfl) rfl rfl rfl ?_
        refine tq_val (fun _ H => ov_move rfl rfl) rfl rfl rfl ?_
        refine tq_val (fun _ H => ov_indexAddrR (H.rd0 hR) rfl Try.underlying46 (Try.sizeOf59 _) rfl rfl (by omega) (by omega)) rfl rfl rfl ?_
        refine tq_val (fun _ H => ld_RThing (H.rd0 hR) rfl (Try.isAgg59 _) (Try.sizeOf59 _) rfl (by omega) (by omega)) rfl rfl rfl ?_
        refine tq_val (fun _ H => ov_fieldAddr rfl Try.underlying85 rfl (Try.sizeOf46 _) (by decide) rfl) rfl rfl rfl ?_
        refine tq_val (fun _ H => ov_load_blk H.get0 rfl (Try.isAgg46 _) rfl rfl rfl) rfl rfl rfl ?_
        refine tq_val (fun _ H => ov_move rfl rfl) rfl rfl rfl ?_
        refine tq_val (fun _ H => ov_indexAddrR (H.rd0 hR2) rfl Try.underlying46 (Try.sizeOf59 _) rfl rfl (by omega) (by omega)) rfl rfl rfl ?_
        refine tq_val (fun _ H => ld_RThing (H.rd0 hR2) rfl (Try.isAgg59 _) (Try.sizeOf59 _) rfl (by omega) (by omega)) rfl rfl rfl ?_
        refine tq_val (fun _ H => ov_neRT (s := gt W i) (t := gt W2 i) rfl rfl rfl) rfl rfl rfl ?_
        refine tq_nil ?_
        intro w5 H
        refine hK12 _ _ (TrC.keep [44, 31, 5, 26, 3, 2] ?_)
        show TrC _ _ _ _ [(44, _), (31, _), (5, _), (26, _), (3, _), (2, _)] _ _
        refine tr_cond rfl (fun c44 => ?_) (fun c44 => ?_)
        · skip
          refine tr_seq (fun K13 hK13 => ?_)
          -- region 7: ref.go:83
          refine tr_region ?_
          refine tr_val (ov_assign rfl rfl) rfl rfl rfl ?_
          refine tr_nil (hK13 _ _ (TrC.keep [4, 44, 31, 5, 26, 3, 2] ?_))
          show TrC _ _ _ _ [(4, _), (44, _), (31, _), (5, _), (26, _), (3, _), (2, _)] _ _
          refine tr_ret (post_ret1 (.inr rfl) rfl rfl ?_)
          exact ⟨congrArg Value.bool (decide_eq_false (fun h => c44 (by rw [h.2.2]))).symm, H.drop0.drop0⟩
        · skip
          refine tr_skip (hK11 _ _ (TrC.keep [44, 31, 5, 26, 3, 2] ?_))
          show TrC _ _ _ _ [(44, _), (31, _), (5, _), (26, _), (3, _), (2, _)] _ _
          -- region 5: ref.go:81
          refine tr_region ?_
          refine tr_val (ov_move rfl rfl) rfl rfl rfl ?_
          refine tr_val (ov_add rfl rfl rfl (w64 (by omega))) rfl rfl rfl ?_
          refine tr_val (ov_assign rfl rfl) rfl rfl rfl ?_
          skip
          exact tr_nil (hK8 (i + 1) _ _ (⟨by omega, by omega, take_eq_step hi0 (by omega) (by omega) hx (Classical.not_not.mp c44), H⟩) (by omega) (Sub.cons rfl (Sub.cons rfl (Sub.cons rfl (Sub.cons rfl Sub.nil)))))
      · skip
        refine tr_exit (hK6 _ _ (TrC.keep [31, 5, 26, 3, 2] ?_))
        show TrC _ _ _ _ [(31, _), (5, _), (26, _), (3, _), (2, _)] _ _
        refine tr_seq (fun K14 hK14 => ?_)
        -- region 8: ref.go:86
        refine tr_region ?_
        refine tr_val (ov_assign rfl rfl) rfl rfl rfl ?_
        refine tr_nil (hK14 _ _ (TrC.keep [4, 31, 5, 26, 3, 2] ?_))
        show TrC _ _ _ _ [(4, _), (31, _), (5, _), (26, _), (3, _), (2, _)] _ _
        refine tr_ret (post_ret1 (.inr rfl) rfl rfl ?_)
        have e1 : W.take i.toNat = W := List.take_of_length_le (by omega)
        have e2 : W2.take i.toNat = W2 := List.take_of_length_le (by omega)
        rw [e1, e2] at hx
        exact ⟨congrArg Value.bool (decide_eq_true ⟨by omega, by omega, hx⟩).symm, H.drop0.drop0⟩

/-! (*curfew/deadline.Book).Clone -/
set_option maxRecDepth 20000 in
theorem bClone_n (p : Option Addr) (w : World) (hp : NoBook w p) : Does Try.prog 40 #[.pointer p] w (fun v w' => ∃ b', v = .pointer (some ⟨b', 0, none⟩) ∧ SH w noBlocks [blk b' 95 [.pointer none, .int .u64 0]] w') := by
  refine does_enter1 Try.func40 rfl Try.ntmps40 rfl ?_
  have H := SH.start w noBlocks
  refine tr_seq (fun K1 hK1 => ?_)
  -- region 0: deadline.go:95
  refine tr_region ?_
  refine tr_val (ov_assign rfl rfl) rfl rfl rfl ?_
  refine tr_nil (hK1 _ _ (TrC.keep [2, 0] ?_))
  show TrC _ _ _ _ [(2, _), (0, _)] _ _
  refine tr_seq (fun K2 hK2 => ?_)
  refine tr_seq (fun K3 hK3 => ?_)
  -- region 1: deadline.go:96
  refine tr_region ?_
  refine tr_val (ov_move rfl rfl) rfl rfl rfl ?_
  refine tr_call (bnone_n p _ (hp.later H)) rfl rfl rfl Try.call71 rfl rfl rfl ?_
  rintro _ w1 ⟨rfl, HC⟩
  have H := H.call0n HC
  refine tr_nil (hK3 _ _ (TrC.keep [6, 2, 0] ?_))
  show TrC _ _ _ _ [(6, _), (2, _), (0, _)] _ _
  refine tr_condb rfl (fun c6 => ?_) (fun c6 => ?_)
  · skip
    refine tr_seq (fun K4 hK4 => ?_)
    -- region 2: deadline.go:97
    refine tr_region ?_
    refine tr_val (ov_build rfl (fun ρ k => bs0 k) (bld95 _)) rfl rfl rfl ?_
    refine tr_box H rfl rfl rfl rfl rfl rfl ?_
    intro b w2 hb H
    refine tr_val (ov_assign rfl rfl) rfl rfl rfl ?_
    refine tr_nil (hK4 _ _ (TrC.keep [2, 6, 0] ?_))
    show TrC _ _ _ _ [(2, _), (6, _), (0, _)] _ _
    refine tr_ret (post_ret1 (.inr rfl) rfl rfl ?_)
    exact ⟨b, rfl, H⟩
  · cases c6

/-! curfew/curfewlaw13.DeadlineNobody -/
set_option maxRecDepth 20000 in
theorem DeadlineNobody_c (id at_ : Int) (w : World) : Does Try.prog 11 #[.int .u64 id, .int .i64 at_] w (fun v w' => v = .bool true ∧ SH w noBlocks [] w') := by
  refine does_enter2 Try.func11 rfl Try.ntmps11 rfl ?_
  have H := SH.start w noBlocks
  refine tr_seq (fun K1 hK1 => ?_)
  -- region 0: law.go:181
  refine tr_region ?_
  refine tr_val (ov_assign rfl rfl) rfl rfl rfl ?_
  refine tr_nil (hK1 _ _ (TrC.keep [4, 0, 1] ?_))
  show TrC _ _ _ _ [(4, _), (0, _), (1, _)] _ _
  refine tr_seq (fun K2 hK2 => ?_)
  -- region 1: law.go:182
  refine tr_region ?_
  refine tr_val (ov_assign rfl rfl) rfl rfl rfl ?_
  refine tr_nil (hK2 _ _ (TrC.keep [5, 4, 0, 1] ?_))
  show TrC _ _ _ _ [(5, _), (4, _), (0, _), (1, _)] _ _
  refine tr_seq (fun K3 hK3 => ?_)
  refine tr_seq (fun K4 hK4 => ?_)
  -- region 2: law.go:183
  refine tr_region ?_
  refine tr_val (ov_move rfl rfl) rfl rfl rfl ?_
  refine tr_val (ov_build rfl (fun ρ k => bs0 k) (bld95 _)) rfl rfl rfl ?_
  refine tr_box H rfl rfl rfl rfl rfl rfl ?_
  intro b9 w1 hb9 H
  refine tr_val (ov_move rfl rfl) rfl rfl rfl ?_
  refine tr_call (bClone_n none _ (.inl rfl)) rfl rfl rfl Try.call40 rfl rfl rfl ?_
  rintro _ w2 ⟨bc, rfl, HC⟩
  have H := H.call0r HC
  refine tr_buildSlice H rfl Try.underlying96 info69 rfl (fun ρ k => bs3 k rfl rfl rfl) (by decide) (by decide) (fill_Ptr_3 none (some ⟨b9, 0, none⟩) (some ⟨bc, 0, none⟩)) rfl rfl rfl ?_
  intro b10 w10 hb10 H
  refine tr_val (ov_len rfl rfl Try.underlying96 rfl) rfl rfl rfl ?_
  refine tr_val (ov_move rfl rfl) rfl rfl rfl ?_
  refine tr_nil (hK4 _ _ (TrC.keep [23, 22, 21, 4, 0, 1] ?_))
  show TrC _ _ _ _ [(23, _), (22, _), (21, _), (4, _), (0, _), (1, _)] _ _
  refine tr_block ?_
  refine tr_loop_ (X := Int) [22, 21, 0, 1] (fun i => [(23, .int .i64 i)]) (fun i w' => 0 ≤ i ∧ i ≤ 3 ∧ SH w noBlocks [blk b10 69 [.pointer none, .pointer (some ⟨b9, 0, none⟩), .pointer (some ⟨bc, 0, none⟩)], blk bc 95 [.pointer none, .int .u64 0], blk b9 95 [.pointer none, .int .u64 0]] w') (fun i => (3 - i).toNat) (0) (Sub.cons rfl (Sub.cons rfl (Sub.cons rfl (Sub.cons rfl (Sub.cons rfl Sub.nil))))) (⟨by omega, by omega, H⟩) ?_
  rintro i w3 ⟨hi0, hi1, H⟩ K5 hK5
  show TrC _ _ _ _ [(23, _), (22, _), (21, _), (0, _), (1, _)] _ _
  refine tr_seq (fun K6 hK6 => ?_)
  -- region 3: law.go:183
  refine tr_region ?_
  refine tr_val (ov_lss rfl rfl rfl) rfl rfl rfl ?_
  refine tr_nil (hK6 _ _ (TrC.keep [24, 23, 22, 21, 0, 1] ?_))
  show TrC _ _ _ _ [(24, _), (23, _), (22, _), (21, _), (0, _), (1, _)] _ _
  refine tr_seq (fun K7 hK7 => ?_)
  refine tr_cond rfl (fun c24 => ?_) (fun c24 => ?_)
  · skip
    refine tr_skip (hK7 _ _ (TrC.keep [24, 23, 22, 21, 0, 1] ?_))
    show TrC _ _ _ _ [(24, _), (23, _), (22, _), (21, _), (0, _), (1, _)] _ _
    refine tr_seq (fun K8 hK8 => ?_)
    refine tr_block ?_
    refine tr_seq (fun K9 hK9 => ?_)
    -- region 4: law.go:183
    refine tr_region ?_
    refine tr_val (ov_indexAddrR (rd_blk [none, some (⟨b9, 0, none⟩ : Addr), some (⟨bc, 0, none⟩ : Addr)] H.get0 rfl lenPtr) rfl Try.underlying96 (Try.sizeOf69 _) rfl rfl (by omega) (by omega)) rfl rfl rfl ?_
    refine tr_val (ld_Ptr (rd_blk [none, some (⟨b9, 0, none⟩ : Addr), some (⟨bc, 0, none⟩ : Addr)] H.get0 rfl lenPtr) rfl (Try.isAgg69 _) rfl (by omega) (by omega)) rfl rfl rfl ?_
    refine tr_val (ov_assign rfl rfl) rfl rfl rfl ?_
    refine tr_nil (hK9 _ _ (TrC.keep [7, 24, 23, 22, 21, 0, 1] ?_))
    show TrC _ _ _ _ [(7, _), (24, _), (23, _), (22, _), (21, _), (0, _), (1, _)] _ _
    refine tr_seq (fun K10 hK10 => ?_)
    -- region 5: law.go:184
    obtain ⟨p, hp⟩ : ∃ p, gt [none, some (⟨b9, 0, none⟩ : Addr), some (⟨bc, 0, none⟩ : Addr)] i = p := ⟨_, rfl⟩
    rw [hp]
    have hnr : ∀ w', (blk bc 95 [.pointer none, .int .u64 0]).holds w' → (blk b9 95 [.pointer none, .int .u64 0]).holds w' → NoBook w' p := fun w' h h' => by
      rcases (show i = 0 ∨ i = 1 ∨ i = 2 by omega) with e | e | e
      · subst e; rw [← hp]; exact .inl rfl
      · subst e; rw [← hp]; exact .inr ⟨b9, rfl, h'⟩
      · subst e; rw [← hp]; exact .inr ⟨bc, rfl, h⟩
    refine tr_region ?_
    refine tr_val (ov_move rfl rfl) rfl rfl rfl ?_
    refine tr_val (ov_move rfl rfl) rfl rfl rfl ?_
    refine tr_val (ov_move rfl rfl) rfl rfl rfl ?_
    refine tr_call (bSet_n p _ (hnr _ H.get1 H.get2) id at_) rfl rfl rfl Try.call32 rfl rfl rfl ?_
    rintro _ w4 ⟨rfl, HC⟩
    have H := H.call0n HC
    refine tr_val (ov_move rfl rfl) rfl rfl rfl ?_
    refine tr_val (ov_extract rfl rfl rfl) rfl rfl rfl ?_
    refine tr_val (ov_extract rfl rfl rfl) rfl rfl rfl ?_
    refine tr_val (ov_assign rfl rfl) rfl rfl rfl ?_
    refine tr_val (ov_assign rfl rfl) rfl rfl rfl ?_
    refine tr_nil (hK10 _ _ (TrC.keep [9, 7, 24, 23, 22, 21, 0, 1] ?_))
    show TrC _ _ _ _ [(9, _), (7, _), (24, _), (23, _), (22, _), (21, _), (0, _), (1, _)] _ _
    refine tr_seq (fun K11 hK11 => ?_)
    -- region 6: law.go:185
    refine tr_region ?_
    refine tr_val (ov_move rfl rfl) rfl rfl rfl ?_
    refine tr_val (ov_move rfl rfl) rfl rfl rfl ?_
    refine tr_call (bClear_n p _ (hnr _ H.get1 H.get2) id) rfl rfl rfl Try.call30 rfl rfl rfl ?_
    rintro _ w5 ⟨rfl, HC⟩
    have H := H.call0n HC
    refine tr_val (ov_move rfl rfl) rfl rfl rfl ?_
    refine tr_val (ov_extract rfl rfl rfl) rfl rfl rfl ?_
    refine tr_val (ov_extract rfl rfl rfl) rfl rfl rfl ?_
    refine tr_alloc H rfl (Try.zeroValue30 _) rfl rfl rfl rfl ?_
    intro b2 w6 hb2 H
    (refine tr_storeW H.get0 rfl (Try.sizeOf30 _) rfl rfl rfl rfl rfl rfl rfl rfl ?_; intro w7 U; have H := H.upd0 U; clear U)
    refine tr_val (ov_assign rfl rfl) rfl rfl rfl ?_
    refine tr_nil (hK11 _ _ (TrC.keep [11, 9, 7, 24, 23, 22, 21, 0, 1] ?_))
    show TrC _ _ _ _ [(11, _), (9, _), (7, _), (24, _), (23, _), (22, _), (21, _), (0, _), (1, _)] _ _
    refine tr_seq (fun K12 hK12 => ?_)
    -- region 7: law.go:186
    refine tr_region ?_
    refine tr_val (ov_move rfl rfl) rfl rfl rfl ?_
    refine tr_val (ov_move rfl rfl) rfl rfl rfl ?_
    refine tr_call (bGet_n p _ (hnr _ H.get2 H.get3) id) rfl rfl rfl Try.call41 rfl rfl rfl ?_
    rintro _ w8 ⟨rfl, HC⟩
    have H := H.call0n HC
    refine tr_val (ov_move rfl rfl) rfl rfl rfl ?_
    refine tr_val (ov_extract rfl rfl rfl) rfl rfl rfl ?_
    refine tr_val (ov_extract rfl rfl rfl) rfl rfl rfl ?_
    refine tr_alloc H rfl (Try.zeroValue30 _) rfl rfl rfl rfl ?_
    intro b3 w9 hb3 H
    (refine tr_storeW H.get0 rfl (Try.sizeOf30 _) rfl rfl rfl rfl rfl rfl rfl rfl ?_; intro w10 U; have H := H.upd0 U; clear U)
    refine tr_val (ov_assign rfl rfl) rfl rfl rfl ?_
    refine tr_nil (hK12 _ _ (TrC.keep [13, 11, 9, 7, 24, 23, 22, 21, 0, 1] ?_))
    show TrC _ _ _ _ [(13, _), (11, _), (9, _), (7, _), (24, _), (23, _), (22, _), (21, _), (0, _), (1, _)] _ _
    refine tr_seq (fun K13 hK13 => ?_)
    -- region 8: law.go:187
    refine tr_region ?_
    refine tr_val (ov_move rfl rfl) rfl rfl rfl ?_
    refine tr_val (ov_move rfl rfl) rfl rfl rfl ?_
    refine tr_call (bAdvance_n p _ (hnr _ H.get3 H.get4) at_) rfl rfl rfl Try.call31 rfl rfl rfl ?_
    rintro _ w11 ⟨rfl, HC⟩
    have H := H.call0n HC
    refine tr_val (ov_move rfl rfl) rfl rfl rfl ?_
    refine tr_val (ov_extract rfl rfl rfl) rfl rfl rfl ?_
    refine tr_val (ov_extract rfl rfl rfl) rfl rfl rfl ?_
    refine tr_val (ov_assign rfl rfl) rfl rfl rfl ?_
    refine tr_val (ov_assign rfl rfl) rfl rfl rfl ?_
    refine tr_nil (hK13 _ _ (TrC.keep [15, 14, 13, 11, 9, 7, 24, 23, 22, 21, 0, 1] ?_))
    show TrC _ _ _ _ [(15, _), (14, _), (13, _), (11, _), (9, _), (7, _), (24, _), (23, _), (22, _), (21, _), (0, _), (1, _)] _ _
    refine tr_seq (fun K14 hK14 => ?_)
    -- region 9: law.go:188
    refine tr_region ?_
    refine tr_val (ov_move rfl rfl) rfl rfl rfl ?_
    refine tr_val (ov_neq rfl rfl rfl) rfl rfl rfl ?_
    refine tr_val (ov_move rfl rfl) rfl rfl rfl ?_
    refine tr_split (t := 54) rfl (fun s54 => ?_) (fun s54 => ?_)
    · exact absurd rfl s54
    · skip
      refine tr_val (ov_move rfl rfl) rfl rfl rfl ?_
      refine tr_val (ov_neq rfl rfl rfl) rfl rfl rfl ?_
      refine tr_val (ov_pick_f (va := undef) rfl rfl rfl rfl) rfl rfl rfl ?_
      refine tr_val (ov_move rfl rfl) rfl rfl rfl ?_
      refine tr_split (t := 58) rfl (fun s58 => ?_) (fun s58 => ?_)
      · exact absurd rfl s58
      · skip
        refine tr_val (ov_move rfl rfl) rfl rfl rfl ?_
        refine tr_val (ov_pick_f (va := undef) rfl rfl rfl rfl) rfl rfl rfl ?_
        refine tr_val (ov_move rfl rfl) rfl rfl rfl ?_
        refine tr_splitb (t := 61) rfl (fun s61 => ?_) (fun s61 => ?_)
        · cases s61
        · skip
          refine tr_val (ov_move rfl rfl) rfl rfl rfl ?_
          refine tr_val (ov_pick_f (va := undef) rfl rfl rfl rfl) rfl rfl rfl ?_
          refine tr_val (ov_move rfl rfl) rfl rfl rfl ?_
          refine tr_splitb (t := 64) rfl (fun s64 => ?_) (fun s64 => ?_)
          · cases s64
          · skip
            refine tr_val (ov_move rfl rfl) rfl rfl rfl ?_
            refine tr_val (ov_len rfl rfl Try.underlying32 rfl) rfl rfl rfl ?_
            refine tr_val (ov_neq rfl rfl rfl) rfl rfl rfl ?_
            refine tr_val (ov_pick_f (va := undef) rfl rfl rfl rfl) rfl rfl rfl ?_
            refine tr_val (ov_move rfl rfl) rfl rfl rfl ?_
            refine tr_split (t := 69) rfl (fun s69 => ?_) (fun s69 => ?_)
            · exact absurd rfl s69
            · skip
              refine tr_val (ov_move rfl rfl) rfl rfl rfl ?_
              refine tr_call (bState_n p _ (hnr _ H.get3 H.get4)) rfl rfl rfl Try.call33 rfl rfl rfl ?_
              rintro _ w12 ⟨rfl, HC⟩
              have H := H.call0n HC
              refine tr_call (Plain13_c none 0 [] 0 0 _ Rd.nil (by decide)) rfl rfl rfl Try.call36 rfl rfl rfl ?_
              rintro _ w13 ⟨A1, c1, rfl, HC⟩
              have H := H.call0r HC
              refine tr_val (ov_build rfl (fun ρ k => bs0 k) (bld85 _)) rfl rfl rfl ?_
              refine tr_call (Same13_c A1 c1 (zR []) 0 0 none 0 [] 0 0 _ (vec_rd H.get0 lenRThing (by decide)) Rd.nil (by decide)) rfl rfl rfl Try.call39 rfl rfl rfl ?_
              rintro _ w14 ⟨rfl, HC⟩
              have H := H.call0n HC
              refine tr_val (ov_not rfl rfl) rfl rfl rfl ?_
              refine tr_val (ov_pick_f (va := undef) rfl rfl rfl rfl) rfl rfl rfl ?_
              refine tr_nil (hK14 _ _ (TrC.keep [76, 7, 24, 23, 22, 21, 0, 1] ?_))
              show TrC _ _ _ _ [(76, _), (7, _), (24, _), (23, _), (22, _), (21, _), (0, _), (1, _)] _ _
              refine tr_cond rfl (fun c76 => ?_) (fun c76 => ?_)
              · exact absurd c76 (by simp [zR])
              · skip
                refine tr_skip (hK8 _ _ (TrC.keep [76, 7, 24, 23, 22, 21, 0, 1] ?_))
                show TrC _ _ _ _ [(76, _), (7, _), (24, _), (23, _), (22, _), (21, _), (0, _), (1, _)] _ _
                -- region 11: law.go:183
                refine tr_region ?_
                refine tr_val (ov_add rfl rfl rfl (w64 (by omega))) rfl rfl rfl ?_
                refine tr_val (ov_move rfl rfl) rfl rfl rfl ?_
                skip
                exact tr_nil (hK5 (i + 1) _ _ (⟨by omega, by omega, H.drop0.drop0.drop0⟩) (by omega) (Sub.cons rfl (Sub.cons rfl (Sub.cons rfl (Sub.cons rfl (Sub.cons rfl Sub.nil))))))
  · skip
    refine tr_exit (hK3 _ _ (TrC.keep [24, 23, 22, 21, 0, 1] ?_))
    show TrC _ _ _ _ [(24, _), (23, _), (22, _), (21, _), (0, _), (1, _)] _ _
    refine tr_seq (fun K15 hK15 => ?_)
    -- region 12: law.go:192
    refine tr_region ?_
    refine tr_call (lives13_c _) rfl rfl rfl Try.call29 rfl rfl rfl ?_
    rintro _ w15 ⟨rfl, HC⟩
    have H := H.call0n HC
    refine tr_val (ov_assign rfl rfl) rfl rfl rfl ?_
    refine tr_nil (hK15 _ _ (TrC.keep [4, 24, 23, 22, 21, 0, 1] ?_))
    show TrC _ _ _ _ [(4, _), (24, _), (23, _), (22, _), (21, _), (0, _), (1, _)] _ _
    refine tr_ret (post_ret1 (.inr rfl) rfl rfl ?_)
    exact ⟨rfl, H.drop0.drop0.drop0⟩

end Go.Proofs.Ytblipnjjgbggiaa
