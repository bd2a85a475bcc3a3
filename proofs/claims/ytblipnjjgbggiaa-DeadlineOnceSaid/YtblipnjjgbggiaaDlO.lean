/- Contracts of wheel.Wheel: DeadlineOnce. Conditions: none. -/
import Derived.Test.YtblipnjjgbggiaaOnc
namespace Go.Proofs.Ytblipnjjgbggiaa
open Go Go.RowKit
set_option linter.unusedVariables false
set_option linter.unusedSimpArgs false

/-! curfew/curfewlaw13.DeadlineOnce -/
set_option maxRecDepth 20000 in
theorem DeadlineOnce_c (now : Int) (B : Option Addr) (c : Nat) (Q : List DOp) (w : World) (hQ : Rd w B 3 (Q.map encDOp)) (hq : ∀ q, q ∈ Q → 0 ≤ q.id ∧ q.id ≤ 18446744073709551615) : Does Try.prog 8 #[.int .i64 now, .slice B Q.length c] w (fun v w' => v = .bool true ∧ SH w noBlocks [] w') := by
  refine does_enter2 Try.func8 rfl Try.ntmps8 rfl ?_
  have H := SH.start w noBlocks
  refine tr_seq (fun K1 hK1 => ?_)
  -- region 0: law.go:90
  refine tr_region ?_
  refine tr_val (ov_assign rfl rfl) rfl rfl rfl ?_
  refine tr_nil (hK1 _ _ (TrC.keep [4, 0, 1] ?_))
  show TrC _ _ _ _ [(4, _), (0, _), (1, _)] _ _
  refine tr_seq (fun K2 hK2 => ?_)
  refine tr_seq (fun K3 hK3 => ?_)
  -- region 1: law.go:91
  refine tr_region ?_
  refine tr_val (ov_move rfl rfl) rfl rfl rfl ?_
  refine tr_val (ov_len rfl rfl Try.underlying68 rfl) rfl rfl rfl ?_
  refine tr_val (ov_gtr rfl rfl rfl) rfl rfl rfl ?_
  refine tr_val (ov_move rfl rfl) rfl rfl rfl ?_
  refine tr_split (t := 22) rfl (fun s22 => ?_) (fun s22 => ?_)
  · skip
    refine tr_pass rfl rfl rfl ?_
    refine tr_pass rfl rfl rfl ?_
    refine tr_val (ov_pick (vb := undef) rfl rfl rfl rfl) rfl rfl rfl ?_
    refine tr_val (ov_move rfl rfl) rfl rfl rfl ?_
    refine tr_pass rfl rfl rfl ?_
    refine tr_pass rfl rfl rfl ?_
    refine tr_val (ov_pick (vb := undef) rfl rfl rfl rfl) rfl rfl rfl ?_
    refine tr_nil (hK3 _ _ (TrC.keep [29, 4, 0, 1] ?_))
    show TrC _ _ _ _ [(29, _), (4, _), (0, _), (1, _)] _ _
    refine tr_cond_t rfl rfl ?_
    refine tr_seq (fun K4 hK4 => ?_)
    -- region 2: law.go:92
    refine tr_region ?_
    refine tr_call (bNew_nil (-1) _ (by decide)) rfl rfl rfl Try.call28 rfl rfl rfl ?_
    rintro _ w1 ⟨rfl, HC⟩
    have H := H.call0n HC
    refine tr_val (ov_eql_nil rfl Try.underlying69 rfl rfl) rfl rfl rfl ?_
    refine tr_val (ov_move rfl rfl) rfl rfl rfl ?_
    refine tr_splitb (t := 32) rfl (fun s32 => ?_) (fun s32 => ?_)
    · skip
      refine tr_call (lives13_c _) rfl rfl rfl Try.call29 rfl rfl rfl ?_
      rintro _ w2 ⟨rfl, HC⟩
      have H := H.call0n HC
      refine tr_val (ov_pick (vb := undef) rfl rfl rfl rfl) rfl rfl rfl ?_
      refine tr_val (ov_assign rfl rfl) rfl rfl rfl ?_
      refine tr_nil (hK4 _ _ (TrC.keep [4, 29, 0, 1] ?_))
      show TrC _ _ _ _ [(4, _), (29, _), (0, _), (1, _)] _ _
      refine tr_ret (post_ret1 (.inr rfl) rfl rfl ?_)
      exact ⟨rfl, H⟩
    · cases s32
  · skip
    refine tr_val (ov_move rfl rfl) rfl rfl rfl ?_
    refine tr_val (ov_lss rfl rfl rfl) rfl rfl rfl ?_
    refine tr_val (ov_pick_f (va := undef) rfl rfl rfl rfl) rfl rfl rfl ?_
    refine tr_val (ov_move rfl rfl) rfl rfl rfl ?_
    refine tr_split (t := 26) rfl (fun s26 => ?_) (fun s26 => ?_)
    · skip
      refine tr_pass rfl rfl rfl ?_
      refine tr_pass rfl rfl rfl ?_
      refine tr_val (ov_pick (vb := undef) rfl rfl rfl rfl) rfl rfl rfl ?_
      refine tr_nil (hK3 _ _ (TrC.keep [29, 4, 0, 1] ?_))
      show TrC _ _ _ _ [(29, _), (4, _), (0, _), (1, _)] _ _
      refine tr_cond_t rfl rfl ?_
      refine tr_seq (fun K5 hK5 => ?_)
      -- region 2: law.go:92
      refine tr_region ?_
      refine tr_call (bNew_nil (-1) _ (by decide)) rfl rfl rfl Try.call28 rfl rfl rfl ?_
      rintro _ w3 ⟨rfl, HC⟩
      have H := H.call0n HC
      refine tr_val (ov_eql_nil rfl Try.underlying69 rfl rfl) rfl rfl rfl ?_
      refine tr_val (ov_move rfl rfl) rfl rfl rfl ?_
      refine tr_splitb (t := 32) rfl (fun s32 => ?_) (fun s32 => ?_)
      · skip
        refine tr_call (lives13_c _) rfl rfl rfl Try.call29 rfl rfl rfl ?_
        rintro _ w4 ⟨rfl, HC⟩
        have H := H.call0n HC
        refine tr_val (ov_pick (vb := undef) rfl rfl rfl rfl) rfl rfl rfl ?_
        refine tr_val (ov_assign rfl rfl) rfl rfl rfl ?_
        refine tr_nil (hK5 _ _ (TrC.keep [4, 29, 0, 1] ?_))
        show TrC _ _ _ _ [(4, _), (29, _), (0, _), (1, _)] _ _
        refine tr_ret (post_ret1 (.inr rfl) rfl rfl ?_)
        exact ⟨rfl, H⟩
      · cases s32
    · skip
      refine tr_val (ov_move rfl rfl) rfl rfl rfl ?_
      refine tr_val (ov_gtr rfl rfl rfl) rfl rfl rfl ?_
      refine tr_val (ov_pick_f (va := undef) rfl rfl rfl rfl) rfl rfl rfl ?_
      refine tr_nil (hK3 _ _ (TrC.keep [29, 4, 0, 1] ?_))
      show TrC _ _ _ _ [(29, _), (4, _), (0, _), (1, _)] _ _
      refine tr_cond rfl (fun c29 => ?_) (fun c29 => ?_)
      · skip
        refine tr_seq (fun K6 hK6 => ?_)
        -- region 2: law.go:92
        refine tr_region ?_
        refine tr_call (bNew_nil (-1) _ (by decide)) rfl rfl rfl Try.call28 rfl rfl rfl ?_
        rintro _ w5 ⟨rfl, HC⟩
        have H := H.call0n HC
        refine tr_val (ov_eql_nil rfl Try.underlying69 rfl rfl) rfl rfl rfl ?_
        refine tr_val (ov_move rfl rfl) rfl rfl rfl ?_
        refine tr_splitb (t := 32) rfl (fun s32 => ?_) (fun s32 => ?_)
        · skip
          refine tr_call (lives13_c _) rfl rfl rfl Try.call29 rfl rfl rfl ?_
          rintro _ w6 ⟨rfl, HC⟩
          have H := H.call0n HC
          refine tr_val (ov_pick (vb := undef) rfl rfl rfl rfl) rfl rfl rfl ?_
          refine tr_val (ov_assign rfl rfl) rfl rfl rfl ?_
          refine tr_nil (hK6 _ _ (TrC.keep [4, 29, 0, 1] ?_))
          show TrC _ _ _ _ [(4, _), (29, _), (0, _), (1, _)] _ _
          refine tr_ret (post_ret1 (.inr rfl) rfl rfl ?_)
          exact ⟨rfl, H⟩
        · cases s32
      · skip
        refine tr_skip (hK2 _ _ (TrC.keep [29, 4, 0, 1] ?_))
        show TrC _ _ _ _ [(29, _), (4, _), (0, _), (1, _)] _ _
        refine tr_seq (fun K7 hK7 => ?_)
        -- region 3: law.go:94
        refine tr_region ?_
        refine tr_val (ov_move rfl rfl) rfl rfl rfl ?_
        refine tr_call (bNew_c now _ (by omega)) rfl rfl rfl Try.call28 rfl rfl rfl ?_
        rintro _ w7 ⟨b, L0, rfl, hX0, HC⟩
        have H := H.call0r HC
        refine tr_val (ov_assign rfl rfl) rfl rfl rfl ?_
        refine tr_nil (hK7 _ _ (TrC.keep [5, 29, 4, 0, 1] ?_))
        show TrC _ _ _ _ [(5, _), (29, _), (4, _), (0, _), (1, _)] _ _
        refine tr_seq (fun K8 hK8 => ?_)
        -- region 4: law.go:95
        refine tr_region ?_
        refine tr_makeMap .u64 encTh H rfl rfl rfl rfl ?_
        intro m1 w1m H
        refine tr_val (ov_assign rfl rfl) rfl rfl rfl ?_
        refine tr_nil (hK8 _ _ (TrC.keep [6, 5, 29, 4, 0, 1] ?_))
        show TrC _ _ _ _ [(6, _), (5, _), (29, _), (4, _), (0, _), (1, _)] _ _
        refine tr_seq (fun K9 hK9 => ?_)
        -- region 5: law.go:96
        refine tr_region ?_
        refine tr_makeMap .u64 Value.bool H rfl rfl rfl rfl ?_
        intro m2 w2m H
        have H := H.top1.top2
        refine tr_val (ov_assign rfl rfl) rfl rfl rfl ?_
        refine tr_nil (hK9 _ _ (TrC.keep [7, 6, 5, 29, 4, 0, 1] ?_))
        show TrC _ _ _ _ [(7, _), (6, _), (5, _), (29, _), (4, _), (0, _), (1, _)] _ _
        refine tr_seq (fun K10 hK10 => ?_)
        refine tr_seq (fun K11 hK11 => ?_)
        -- region 6: law.go:97
        refine tr_region ?_
        refine tr_val (ov_move rfl rfl) rfl rfl rfl ?_
        refine tr_val (ov_len rfl rfl Try.underlying68 rfl) rfl rfl rfl ?_
        refine tr_val (ov_move rfl rfl) rfl rfl rfl ?_
        refine tr_nil (hK11 _ _ (TrC.keep [41, 40, 39, 7, 6, 5, 29, 4, 0, 1] ?_))
        show TrC _ _ _ _ [(41, _), (40, _), (39, _), (7, _), (6, _), (5, _), (29, _), (4, _), (0, _), (1, _)] _ _
        refine tr_block ?_
        refine tr_loop_ (X := Int × Int × Int × List Thing × List (Int × Thing × Nat) × Nat × List (Int × Bool × Nat) × Nat × List Res) [40, 39, 7, 6, 5, 29, 0, 1] (fun ⟨i, n, la, X, E1, k1, E2, k2, L⟩ => [(41, .int .i64 i)]) (fun ⟨i, n, la, X, E1, k1, E2, k2, L⟩ w' => 0 ≤ i ∧ i ≤ Q.length ∧ BookX b n la X L ∧ Arm X E1 ∧ Giv la E2 ∧ SH w noBlocks [pack L, mapT m1 E1 k1, mapR m2 .u64 Value.bool E2 k2] w') (fun ⟨i, n, la, X, E1, k1, E2, k2, L⟩ => (Q.length - i).toNat) (⟨0, now, 0, [], [], 0, [], 0, L0⟩) (Sub.cons rfl (Sub.cons rfl (Sub.cons rfl (Sub.cons rfl (Sub.cons rfl (Sub.cons rfl (Sub.cons rfl (Sub.cons rfl (Sub.cons rfl Sub.nil))))))))) (⟨by omega, by omega, hX0, Arm.nil, Giv.nil, H⟩) ?_
        rintro ⟨i, n, la, X, E1, k1, E2, k2, L⟩ w8 ⟨hi0, hi1, hX, ha, hg, H⟩ K12 hK12
        have hids : Ids X := by obtain ⟨_, _, d, Lw, ⟨Rs, Fv, hW, hM⟩, _⟩ := hX; exact hW.ids
        have hxl : X.length ≤ 256 := by obtain ⟨_, _, d, Lw, ⟨Rs, Fv, hW, hM⟩, _⟩ := hX; exact hW.few
        have hqi := fun (q : i < Q.length) => hq _ (gt_mem hi0 q)
        show TrC _ _ _ _ [(41, _), (40, _), (39, _), (7, _), (6, _), (5, _), (29, _), (0, _), (1, _)] _ _
        refine tr_seq (fun K13 hK13 => ?_)
        -- region 7: law.go:97
        refine tr_region ?_
        refine tr_val (ov_lss rfl rfl rfl) rfl rfl rfl ?_
        refine tr_nil (hK13 _ _ (TrC.keep [42, 41, 40, 39, 7, 6, 5, 29, 0, 1] ?_))
        show TrC _ _ _ _ [(42, _), (41, _), (40, _), (39, _), (7, _), (6, _), (5, _), (29, _), (0, _), (1, _)] _ _
        refine tr_seq (fun K14 hK14 => ?_)
        refine tr_cond rfl (fun c42 => ?_) (fun c42 => ?_)
        · skip
          refine tr_skip (hK14 _ _ (TrC.keep [42, 41, 40, 39, 7, 6, 5, 29, 0, 1] ?_))
          show TrC _ _ _ _ [(42, _), (41, _), (40, _), (39, _), (7, _), (6, _), (5, _), (29, _), (0, _), (1, _)] _ _
          refine tr_seq (fun K15 hK15 => ?_)
          refine tr_block ?_
          refine tr_seq (fun K16 hK16 => ?_)
          -- region 8: law.go:97
          refine tr_region ?_
          refine tr_val (ov_indexAddrR (H.rd0 hQ) rfl Try.underlying68 (Try.sizeOf74 _) rfl rfl (by omega) (by omega)) rfl rfl rfl ?_
          refine tr_val (ld_DOp (H.rd0 hQ) rfl (Try.isAgg74 _) (Try.sizeOf74 _) rfl (by omega) (by omega)) rfl rfl rfl ?_
          refine tr_alloc H rfl (Try.zeroValue74 _) rfl rfl rfl rfl ?_
          intro b9 w9 hb9 H
          (refine tr_storeW H.get0 rfl (Try.sizeOf74 _) rfl rfl rfl rfl rfl rfl rfl rfl ?_; intro w10 U; have H := H.upd0 U; clear U)
          refine tr_nil (hK16 _ _ (TrC.keep [9, 42, 41, 40, 39, 7, 6, 5, 29, 0, 1] ?_))
          show TrC _ _ _ _ [(9, _), (42, _), (41, _), (40, _), (39, _), (7, _), (6, _), (5, _), (29, _), (0, _), (1, _)] _ _
          refine tr_seq (fun K17 hK17 => ?_)
          -- region 9: law.go:98
          refine tr_region ?_
          refine tr_val (ov_fieldAddr rfl Try.underlying74 rfl (Try.sizeOf3 _) (by decide) rfl) rfl rfl rfl ?_
          refine tr_val (ov_load_blk H.get0 rfl (Try.isAgg3 _) rfl rfl rfl) rfl rfl rfl ?_
          refine tr_nil (hK17 _ _ (TrC.keep [46, 9, 42, 41, 40, 39, 7, 6, 5, 29, 0, 1] ?_))
          show TrC _ _ _ _ [(46, _), (9, _), (42, _), (41, _), (40, _), (39, _), (7, _), (6, _), (5, _), (29, _), (0, _), (1, _)] _ _
          refine tr_block ?_
          refine tr_seq (fun K18 hK18 => ?_)
          -- region 16: law.go:99
          refine tr_region ?_
          refine tr_val (ov_eql rfl rfl rfl) rfl rfl rfl ?_
          refine tr_val (ov_assign rfl rfl) rfl rfl rfl ?_
          refine tr_nil (hK18 _ _ (TrC.keep [72, 46, 9, 42, 41, 40, 39, 7, 6, 5, 29, 0, 1] ?_))
          show TrC _ _ _ _ [(72, _), (46, _), (9, _), (42, _), (41, _), (40, _), (39, _), (7, _), (6, _), (5, _), (29, _), (0, _), (1, _)] _ _
          refine tr_cond rfl (fun c72 => ?_) (fun c72 => ?_)
          · skip
            refine tr_seq (fun K19 hK19 => ?_)
            -- region 17: law.go:100
            refine tr_region ?_
            refine tr_val (ov_move rfl rfl) rfl rfl rfl ?_
            refine tr_val (ov_fieldAddr rfl Try.underlying74 rfl (Try.sizeOf28 _) (by decide) rfl) rfl rfl rfl ?_
            refine tr_val (ov_load_blk H.get0 rfl (Try.isAgg28 _) rfl rfl rfl) rfl rfl rfl ?_
            refine tr_call (bClear_c b n la X L _ hX H.get1 (gt Q i).id) rfl rfl rfl Try.call30 rfl rfl rfl ?_
            rintro _ w11 ⟨rfl, L1, hX1, HC⟩
            have H := H.top1.call1 HC
            refine tr_nil (hK19 _ _ (TrC.keep [72, 46, 9, 42, 41, 40, 39, 7, 6, 5, 29, 0, 1] ?_))
            show TrC _ _ _ _ [(72, _), (46, _), (9, _), (42, _), (41, _), (40, _), (39, _), (7, _), (6, _), (5, _), (29, _), (0, _), (1, _)] _ _
            -- region 18: law.go:101
            refine tr_region ?_
            refine tr_val (ov_move rfl rfl) rfl rfl rfl ?_
            refine tr_val (ov_fieldAddr rfl Try.underlying74 rfl (Try.sizeOf28 _) (by decide) rfl) rfl rfl rfl ?_
            refine tr_val (ov_load_blk H.get1 rfl (Try.isAgg28 _) rfl rfl rfl) rfl rfl rfl ?_
            refine tr_mapDel H.get2 rfl rfl Try.underlying71 Try.underlying28 rfl rfl rfl rfl ?_
            intro w19 U; have H := H.upd2 U; clear U
            refine tr_nil (hK15 _ _ (TrC.keep [72, 46, 9, 42, 41, 40, 39, 7, 6, 5, 29, 0, 1] ?_))
            show TrC _ _ _ _ [(72, _), (46, _), (9, _), (42, _), (41, _), (40, _), (39, _), (7, _), (6, _), (5, _), (29, _), (0, _), (1, _)] _ _
            -- region 36: law.go:97
            refine tr_region ?_
            refine tr_val (ov_add rfl rfl rfl (w64 (by omega))) rfl rfl rfl ?_
            refine tr_val (ov_move rfl rfl) rfl rfl rfl ?_
            skip
            exact tr_nil (hK12 (⟨i + 1, n, la, (dropT (gt Q i).id X), (mdel (gt Q i).id E1), k1, E2, k2, L1⟩) _ _ (⟨by omega, by omega, hX1, ha.del hids, hg, H.drop1⟩) (by (dsimp only; omega)) (Sub.cons rfl (Sub.cons rfl (Sub.cons rfl (Sub.cons rfl (Sub.cons rfl (Sub.cons rfl (Sub.cons rfl (Sub.cons rfl (Sub.cons rfl Sub.nil))))))))))
          · skip
            refine tr_seq (fun K20 hK20 => ?_)
            -- region 19: law.go:102
            refine tr_region ?_
            refine tr_val (ov_eql rfl rfl rfl) rfl rfl rfl ?_
            refine tr_val (ov_assign rfl rfl) rfl rfl rfl ?_
            refine tr_nil (hK20 _ _ (TrC.keep [81, 72, 46, 9, 42, 41, 40, 39, 7, 6, 5, 29, 0, 1] ?_))
            show TrC _ _ _ _ [(81, _), (72, _), (46, _), (9, _), (42, _), (41, _), (40, _), (39, _), (7, _), (6, _), (5, _), (29, _), (0, _), (1, _)] _ _
            refine tr_cond rfl (fun c81 => ?_) (fun c81 => ?_)
            · skip
              refine tr_seq (fun K21 hK21 => ?_)
              -- region 20: law.go:103
              refine tr_region ?_
              refine tr_val (ov_move rfl rfl) rfl rfl rfl ?_
              refine tr_val (ov_fieldAddr rfl Try.underlying74 rfl (Try.sizeOf2 _) (by decide) rfl) rfl rfl rfl ?_
              refine tr_val (ov_load_blk H.get0 rfl (Try.isAgg2 _) rfl rfl rfl) rfl rfl rfl ?_
              refine tr_call (bAdvance_c b n la X L _ hX H.get1 (gt Q i).at_) rfl rfl rfl Try.call31 rfl rfl rfl ?_
              rintro _ w12 ⟨A1, c1, rfl, L1, hX1, HC⟩
              have H := H.top1.call1e HC
              refine tr_val (ov_move rfl rfl) rfl rfl rfl ?_
              refine tr_val (ov_extract rfl rfl rfl) rfl rfl rfl ?_
              refine tr_val (ov_extract rfl rfl rfl) rfl rfl rfl ?_
              refine tr_val (ov_assign rfl rfl) rfl rfl rfl ?_
              refine tr_val (ov_assign rfl rfl) rfl rfl rfl ?_
              refine tr_nil (hK21 _ _ (TrC.keep [11, 10, 81, 72, 46, 9, 42, 41, 40, 39, 7, 6, 5, 29, 0, 1] ?_))
              show TrC _ _ _ _ [(11, _), (10, _), (81, _), (72, _), (46, _), (9, _), (42, _), (41, _), (40, _), (39, _), (7, _), (6, _), (5, _), (29, _), (0, _), (1, _)] _ _
              refine tr_seq (fun K22 hK22 => ?_)
              refine tr_seq (fun K23 hK23 => ?_)
              -- region 21: law.go:104
              refine tr_region ?_
              refine tr_val (ov_move rfl rfl) rfl rfl rfl ?_
              refine tr_val (ov_neq rfl rfl rfl) rfl rfl rfl ?_
              refine tr_nil (hK23 _ _ (TrC.keep [91, 10, 81, 72, 46, 9, 42, 41, 40, 39, 7, 6, 5, 29, 0, 1] ?_))
              show TrC _ _ _ _ [(91, _), (10, _), (81, _), (72, _), (46, _), (9, _), (42, _), (41, _), (40, _), (39, _), (7, _), (6, _), (5, _), (29, _), (0, _), (1, _)] _ _
              refine tr_cond rfl (fun c91 => ?_) (fun c91 => ?_)
              · skip
                refine tr_exit (hK15 _ _ (TrC.keep [91, 10, 81, 72, 46, 9, 42, 41, 40, 39, 7, 6, 5, 29, 0, 1] ?_))
                show TrC _ _ _ _ [(91, _), (10, _), (81, _), (72, _), (46, _), (9, _), (42, _), (41, _), (40, _), (39, _), (7, _), (6, _), (5, _), (29, _), (0, _), (1, _)] _ _
                -- region 36: law.go:97
                refine tr_region ?_
                refine tr_val (ov_add rfl rfl rfl (w64 (by omega))) rfl rfl rfl ?_
                refine tr_val (ov_move rfl rfl) rfl rfl rfl ?_
                skip
                exact tr_nil (hK12 (⟨i + 1, (advN n (gt Q i).at_), la, (advX n (gt Q i).at_ X), E1, k1, E2, k2, L1⟩) _ _ (⟨by omega, by omega, hX1, (by unfold advX; rw [if_neg c91]; exact ha), hg, H.drop0.drop1⟩) (by (dsimp only; omega)) (Sub.cons rfl (Sub.cons rfl (Sub.cons rfl (Sub.cons rfl (Sub.cons rfl (Sub.cons rfl (Sub.cons rfl (Sub.cons rfl (Sub.cons rfl Sub.nil))))))))))
              · skip
                refine tr_skip (hK22 _ _ (TrC.keep [91, 10, 81, 72, 46, 9, 42, 41, 40, 39, 7, 6, 5, 29, 0, 1] ?_))
                show TrC _ _ _ _ [(91, _), (10, _), (81, _), (72, _), (46, _), (9, _), (42, _), (41, _), (40, _), (39, _), (7, _), (6, _), (5, _), (29, _), (0, _), (1, _)] _ _
                refine tr_seq (fun K24 hK24 => ?_)
                refine tr_seq (fun K25 hK25 => ?_)
                -- region 22: law.go:107
                have he : advE n (gt Q i).at_ = 0 := Classical.not_not.mp c91
                have e1 : advF n (gt Q i).at_ X = (firedX (gt Q i).at_ X) := by unfold advF firedX; rw [if_pos he]
                have e2 : advX n (gt Q i).at_ X = (X.filter fun t => decide ((gt Q i).at_ < t.due)) := by unfold advX; rw [if_pos he]
                rw [e2] at hX1
                rw [e1] at H ⊢
                have hfl := firedX_le (at_ := (gt Q i).at_) (X := X)
                refine tr_region ?_
                refine tr_val (ov_move rfl rfl) rfl rfl rfl ?_
                refine tr_val (ov_len rfl rfl Try.underlying32 rfl) rfl rfl rfl ?_
                refine tr_val (ov_move rfl rfl) rfl rfl rfl ?_
                refine tr_nil (hK25 _ _ (TrC.keep [94, 93, 92, 91, 81, 72, 46, 9, 42, 41, 40, 39, 7, 6, 5, 29, 0, 1] ?_))
                show TrC _ _ _ _ [(94, _), (93, _), (92, _), (91, _), (81, _), (72, _), (46, _), (9, _), (42, _), (41, _), (40, _), (39, _), (7, _), (6, _), (5, _), (29, _), (0, _), (1, _)] _ _
                refine tr_block ?_
                refine tr_loop_ (X := Int × List (Int × Thing × Nat)) [93, 92, 91, 81, 72, 46, 9, 42, 41, 40, 39, 7, 6, 5, 29, 0, 1] (fun ⟨k, E⟩ => [(94, .int .i64 k)]) (fun ⟨k, E⟩ w' => 0 ≤ k ∧ k ≤ (firedX (gt Q i).at_ X).length ∧ ArmK X (firedX (gt Q i).at_ X) k E ∧ SH w noBlocks [vec A1 c1 30 3 encThing (firedX (gt Q i).at_ X), pack L1, blk b9 74 [.int .i64 (gt Q i).kind, .int .u64 (gt Q i).id, .int .i64 (gt Q i).at_], mapT m1 E k1, mapR m2 .u64 Value.bool E2 k2] w') (fun ⟨k, E⟩ => ((firedX (gt Q i).at_ X).length - k).toNat) (⟨0, E1⟩) (Sub.cons rfl (Sub.cons rfl (Sub.cons rfl (Sub.cons rfl (Sub.cons rfl (Sub.cons rfl (Sub.cons rfl (Sub.cons rfl (Sub.cons rfl (Sub.cons rfl (Sub.cons rfl (Sub.cons rfl (Sub.cons rfl (Sub.cons rfl (Sub.cons rfl (Sub.cons rfl (Sub.cons rfl (Sub.cons rfl Sub.nil)))))))))))))))))) (⟨by omega, by omega, ha.start, H⟩) ?_
                rintro ⟨k, E⟩ w13 ⟨hk0, hk1, hk, H⟩ K26 hK26
                show TrC _ _ _ _ [(94, _), (93, _), (92, _), (91, _), (81, _), (72, _), (46, _), (9, _), (42, _), (41, _), (40, _), (39, _), (7, _), (6, _), (5, _), (29, _), (0, _), (1, _)] _ _
                refine tr_seq (fun K27 hK27 => ?_)
                -- region 23: law.go:107
                refine tr_region ?_
                refine tr_val (ov_lss rfl rfl rfl) rfl rfl rfl ?_
                refine tr_nil (hK27 _ _ (TrC.keep [95, 94, 93, 92, 91, 81, 72, 46, 9, 42, 41, 40, 39, 7, 6, 5, 29, 0, 1] ?_))
                show TrC _ _ _ _ [(95, _), (94, _), (93, _), (92, _), (91, _), (81, _), (72, _), (46, _), (9, _), (42, _), (41, _), (40, _), (39, _), (7, _), (6, _), (5, _), (29, _), (0, _), (1, _)] _ _
                refine tr_seq (fun K28 hK28 => ?_)
                refine tr_cond rfl (fun c95 => ?_) (fun c95 => ?_)
                · skip
                  refine tr_skip (hK28 _ _ (TrC.keep [95, 94, 93, 92, 91, 81, 72, 46, 9, 42, 41, 40, 39, 7, 6, 5, 29, 0, 1] ?_))
                  show TrC _ _ _ _ [(95, _), (94, _), (93, _), (92, _), (91, _), (81, _), (72, _), (46, _), (9, _), (42, _), (41, _), (40, _), (39, _), (7, _), (6, _), (5, _), (29, _), (0, _), (1, _)] _ _
                  refine tr_seq (fun K29 hK29 => ?_)
                  refine tr_block ?_
                  refine tr_seq (fun K30 hK30 => ?_)
                  -- region 24: law.go:107
                  refine tr_region ?_
                  refine tr_val (ov_indexAddrR (vec_rd H.get0 lenThing (by decide)) rfl Try.underlying32 (Try.sizeOf30 _) rfl rfl (by omega) (by omega)) rfl rfl rfl ?_
                  refine tr_val (ld_Thing (vec_rd H.get0 lenThing (by decide)) rfl (Try.isAgg30 _) (Try.sizeOf30 _) rfl (by omega) (by omega)) rfl rfl rfl ?_
                  refine tr_alloc H rfl (Try.zeroValue30 _) rfl rfl rfl rfl ?_
                  intro b13 w14 hb13 H
                  (refine tr_storeW H.get0 rfl (Try.sizeOf30 _) rfl rfl rfl rfl rfl rfl rfl rfl ?_; intro w15 U; have H := H.upd0 U; clear U)
                  refine tr_nil (hK30 _ _ (TrC.keep [13, 95, 94, 93, 92, 91, 81, 72, 46, 9, 42, 41, 40, 39, 7, 6, 5, 29, 0, 1] ?_))
                  show TrC _ _ _ _ [(13, _), (95, _), (94, _), (93, _), (92, _), (91, _), (81, _), (72, _), (46, _), (9, _), (42, _), (41, _), (40, _), (39, _), (7, _), (6, _), (5, _), (29, _), (0, _), (1, _)] _ _
                  refine tr_seq (fun K31 hK31 => ?_)
                  refine tr_seq (fun K32 hK32 => ?_)
                  -- region 25: law.go:108
                  have hlk := hk.look hids hk0 (by omega)
                  have hfm := firedX_mem.mp (gt_mem (L := (firedX (gt Q i).at_ X)) hk0 (by omega))
                  refine tr_region ?_
                  refine tr_val (ov_move rfl rfl) rfl rfl rfl ?_
                  refine tr_val (ov_fieldAddr rfl Try.underlying30 rfl (Try.sizeOf28 _) (by decide) rfl) rfl rfl rfl ?_
                  refine tr_val (ov_load_blk H.get0 rfl (Try.isAgg28 _) rfl rfl rfl) rfl rfl rfl ?_
                  refine tr_val (ov_eq (ov_lookup1 H.get4 rfl Try.underlying71 Try.underlying28 (Try.zeroValue30 _) rfl rfl) (by rw [hlk]; rfl : _ = Value.agg #[.int .u64 (gt (firedX (gt Q i).at_ X) k).id, .int .u64 (gt (firedX (gt Q i).at_ X) k).gen, .int .i64 (gt (firedX (gt Q i).at_ X) k).due])) rfl rfl rfl ?_
                  refine tr_val (ov_load_blkN H.get0 rfl (Try.isAgg30 _) (Try.sizeOf30 _) rfl rfl rfl) rfl rfl rfl ?_
                  refine tr_val (ov_neTh (s := gt (firedX (gt Q i).at_ X) k) (t := gt (firedX (gt Q i).at_ X) k) rfl rfl rfl) rfl rfl rfl ?_
                  refine tr_val (ov_move rfl rfl) rfl rfl rfl ?_
                  refine tr_split (t := 104) rfl (fun s104 => ?_) (fun s104 => ?_)
                  · exact absurd rfl s104
                  · skip
                    refine tr_val (ov_fieldAddr rfl Try.underlying30 rfl (Try.sizeOf2 _) (by decide) rfl) rfl rfl rfl ?_
                    refine tr_val (ov_load_blk H.get0 rfl (Try.isAgg2 _) rfl rfl rfl) rfl rfl rfl ?_
                    refine tr_val (ov_fieldAddr rfl Try.underlying74 rfl (Try.sizeOf2 _) (by decide) rfl) rfl rfl rfl ?_
                    refine tr_val (ov_load_blk H.get3 rfl (Try.isAgg2 _) rfl rfl rfl) rfl rfl rfl ?_
                    refine tr_val (ov_gtr rfl rfl rfl) rfl rfl rfl ?_
                    refine tr_val (ov_pick_f (va := undef) rfl rfl rfl rfl) rfl rfl rfl ?_
                    refine tr_nil (hK32 _ _ (TrC.keep [110, 13, 95, 94, 93, 92, 91, 81, 72, 46, 9, 42, 41, 40, 39, 7, 6, 5, 29, 0, 1] ?_))
                    show TrC _ _ _ _ [(110, _), (13, _), (95, _), (94, _), (93, _), (92, _), (91, _), (81, _), (72, _), (46, _), (9, _), (42, _), (41, _), (40, _), (39, _), (7, _), (6, _), (5, _), (29, _), (0, _), (1, _)] _ _
                    refine tr_cond rfl (fun c110 => ?_) (fun c110 => ?_)
                    · exfalso; omega
                    · skip
                      refine tr_skip (hK31 _ _ (TrC.keep [110, 13, 95, 94, 93, 92, 91, 81, 72, 46, 9, 42, 41, 40, 39, 7, 6, 5, 29, 0, 1] ?_))
                      show TrC _ _ _ _ [(110, _), (13, _), (95, _), (94, _), (93, _), (92, _), (91, _), (81, _), (72, _), (46, _), (9, _), (42, _), (41, _), (40, _), (39, _), (7, _), (6, _), (5, _), (29, _), (0, _), (1, _)] _ _
                      -- region 27: law.go:111
                      refine tr_region ?_
                      refine tr_val (ov_move rfl rfl) rfl rfl rfl ?_
                      refine tr_val (ov_fieldAddr rfl Try.underlying30 rfl (Try.sizeOf28 _) (by decide) rfl) rfl rfl rfl ?_
                      refine tr_val (ov_load_blk H.get0 rfl (Try.isAgg28 _) rfl rfl rfl) rfl rfl rfl ?_
                      refine tr_mapDel H.get4 rfl rfl Try.underlying71 Try.underlying28 rfl rfl rfl rfl ?_
                      intro w29 U; have H := H.upd4 U; clear U
                      refine tr_nil (hK29 _ _ (TrC.keep [110, 13, 95, 94, 93, 92, 91, 81, 72, 46, 9, 42, 41, 40, 39, 7, 6, 5, 29, 0, 1] ?_))
                      show TrC _ _ _ _ [(110, _), (13, _), (95, _), (94, _), (93, _), (92, _), (91, _), (81, _), (72, _), (46, _), (9, _), (42, _), (41, _), (40, _), (39, _), (7, _), (6, _), (5, _), (29, _), (0, _), (1, _)] _ _
                      -- region 28: law.go:107
                      refine tr_region ?_
                      refine tr_val (ov_add rfl rfl rfl (w64 (by omega))) rfl rfl rfl ?_
                      refine tr_val (ov_move rfl rfl) rfl rfl rfl ?_
                      skip
                      exact tr_nil (hK26 (⟨k + 1, (mdel (gt (firedX (gt Q i).at_ X) k).id E)⟩) _ _ (⟨by omega, by omega, hk.step hk0 (by omega), H.drop0⟩) (by (dsimp only; omega)) (Sub.cons rfl (Sub.cons rfl (Sub.cons rfl (Sub.cons rfl (Sub.cons rfl (Sub.cons rfl (Sub.cons rfl (Sub.cons rfl (Sub.cons rfl (Sub.cons rfl (Sub.cons rfl (Sub.cons rfl (Sub.cons rfl (Sub.cons rfl (Sub.cons rfl (Sub.cons rfl (Sub.cons rfl (Sub.cons rfl Sub.nil)))))))))))))))))))
                · skip
                  refine tr_exit (hK24 _ _ (TrC.keep [95, 94, 93, 92, 91, 81, 72, 46, 9, 42, 41, 40, 39, 7, 6, 5, 29, 0, 1] ?_))
                  show TrC _ _ _ _ [(95, _), (94, _), (93, _), (92, _), (91, _), (81, _), (72, _), (46, _), (9, _), (42, _), (41, _), (40, _), (39, _), (7, _), (6, _), (5, _), (29, _), (0, _), (1, _)] _ _
                  refine tr_seq (fun K33 hK33 => ?_)
                  -- region 29: law.go:113
                  have harm := hk.stop hids (by omega)
                  refine tr_region ?_
                  refine tr_val (ov_fieldAddr rfl Try.underlying74 rfl (Try.sizeOf28 _) (by decide) rfl) rfl rfl rfl ?_
                  refine tr_val (ov_load_blk H.get2 rfl (Try.isAgg28 _) rfl rfl rfl) rfl rfl rfl ?_
                  refine tr_val (ov_rem rfl rfl rfl (by omega) (Int.tmod_eq_emod_of_nonneg (by omega))) rfl rfl rfl ?_
                  refine tr_val (ov_move rfl rfl) rfl rfl rfl ?_
                  refine tr_nil (hK33 _ _ (TrC.keep [118, 117, 95, 94, 93, 92, 91, 81, 72, 46, 9, 42, 41, 40, 39, 7, 6, 5, 29, 0, 1] ?_))
                  show TrC _ _ _ _ [(118, _), (117, _), (95, _), (94, _), (93, _), (92, _), (91, _), (81, _), (72, _), (46, _), (9, _), (42, _), (41, _), (40, _), (39, _), (7, _), (6, _), (5, _), (29, _), (0, _), (1, _)] _ _
                  refine tr_block ?_
                  refine tr_loop_ (X := Int) [117, 95, 94, 93, 92, 91, 81, 72, 46, 9, 42, 41, 40, 39, 7, 6, 5, 29, 0, 1] (fun j => [(118, .int .u64 j)]) (fun j w' => 0 ≤ j ∧ j ≤ 20 ∧ SH w noBlocks [vec A1 c1 30 3 encThing (firedX (gt Q i).at_ X), pack L1, blk b9 74 [.int .i64 (gt Q i).kind, .int .u64 (gt Q i).id, .int .i64 (gt Q i).at_], mapT m1 E k1, mapR m2 .u64 Value.bool E2 k2] w') (fun j => ((gt Q i).id % 20 - j).toNat) (0) (Sub.cons rfl (Sub.cons rfl (Sub.cons rfl (Sub.cons rfl (Sub.cons rfl (Sub.cons rfl (Sub.cons rfl (Sub.cons rfl (Sub.cons rfl (Sub.cons rfl (Sub.cons rfl (Sub.cons rfl (Sub.cons rfl (Sub.cons rfl (Sub.cons rfl (Sub.cons rfl (Sub.cons rfl (Sub.cons rfl (Sub.cons rfl (Sub.cons rfl (Sub.cons rfl Sub.nil))))))))))))))))))))) (⟨by omega, by omega, H⟩) ?_
                  rintro j w16 ⟨hj0, hj1, H⟩ K34 hK34
                  show TrC _ _ _ _ [(118, _), (117, _), (95, _), (94, _), (93, _), (92, _), (91, _), (81, _), (72, _), (46, _), (9, _), (42, _), (41, _), (40, _), (39, _), (7, _), (6, _), (5, _), (29, _), (0, _), (1, _)] _ _
                  refine tr_seq (fun K35 hK35 => ?_)
                  -- region 30: law.go:113
                  refine tr_region ?_
                  refine tr_val (ov_lss rfl rfl rfl) rfl rfl rfl ?_
                  refine tr_nil (hK35 _ _ (TrC.keep [119, 118, 117, 95, 94, 93, 92, 91, 81, 72, 46, 9, 42, 41, 40, 39, 7, 6, 5, 29, 0, 1] ?_))
                  show TrC _ _ _ _ [(119, _), (118, _), (117, _), (95, _), (94, _), (93, _), (92, _), (91, _), (81, _), (72, _), (46, _), (9, _), (42, _), (41, _), (40, _), (39, _), (7, _), (6, _), (5, _), (29, _), (0, _), (1, _)] _ _
                  refine tr_seq (fun K36 hK36 => ?_)
                  refine tr_cond rfl (fun c119 => ?_) (fun c119 => ?_)
                  · skip
                    refine tr_skip (hK36 _ _ (TrC.keep [119, 118, 117, 95, 94, 93, 92, 91, 81, 72, 46, 9, 42, 41, 40, 39, 7, 6, 5, 29, 0, 1] ?_))
                    show TrC _ _ _ _ [(119, _), (118, _), (117, _), (95, _), (94, _), (93, _), (92, _), (91, _), (81, _), (72, _), (46, _), (9, _), (42, _), (41, _), (40, _), (39, _), (7, _), (6, _), (5, _), (29, _), (0, _), (1, _)] _ _
                    refine tr_seq (fun K37 hK37 => ?_)
                    refine tr_block ?_
                    refine tr_seq (fun K38 hK38 => ?_)
                    -- region 31: law.go:113
                    refine tr_region ?_
                    refine tr_val (ov_move rfl rfl) rfl rfl rfl ?_
                    refine tr_val (ov_assign rfl rfl) rfl rfl rfl ?_
                    refine tr_nil (hK38 _ _ (TrC.keep [14, 119, 118, 117, 95, 94, 93, 92, 91, 81, 72, 46, 9, 42, 41, 40, 39, 7, 6, 5, 29, 0, 1] ?_))
                    show TrC _ _ _ _ [(14, _), (119, _), (118, _), (117, _), (95, _), (94, _), (93, _), (92, _), (91, _), (81, _), (72, _), (46, _), (9, _), (42, _), (41, _), (40, _), (39, _), (7, _), (6, _), (5, _), (29, _), (0, _), (1, _)] _ _
                    refine tr_seq (fun K39 hK39 => ?_)
                    -- region 32: law.go:114
                    refine tr_region ?_
                    refine tr_val (ov_move rfl rfl) rfl rfl rfl ?_
                    refine tr_val (ov_move rfl rfl) rfl rfl rfl ?_
                    refine tr_val (ov_eq (ov_lookup H.get3 rfl Try.underlying71 Try.underlying28 (Try.zeroValue30 _) rfl rfl) (by rw [look_th] : _ = Value.tuple #[.agg #[.int .u64 (tOr (mfind j E)).id, .int .u64 (tOr (mfind j E)).gen, .int .i64 (tOr (mfind j E)).due], .bool (mfind j E).isSome])) rfl rfl rfl ?_
                    refine tr_val (ov_move rfl rfl) rfl rfl rfl ?_
                    refine tr_val (ov_extract rfl rfl rfl) rfl rfl rfl ?_
                    refine tr_val (ov_extract rfl rfl rfl) rfl rfl rfl ?_
                    refine tr_alloc H rfl (Try.zeroValue30 _) rfl rfl rfl rfl ?_
                    intro b15 w17 hb15 H
                    (refine tr_storeW H.get0 rfl (Try.sizeOf30 _) rfl rfl rfl rfl rfl rfl rfl rfl ?_; intro w18 U; have H := H.upd0 U; clear U)
                    refine tr_val (ov_assign rfl rfl) rfl rfl rfl ?_
                    refine tr_nil (hK39 _ _ (TrC.keep [16, 15, 119, 118, 117, 95, 94, 93, 92, 91, 81, 72, 46, 9, 42, 41, 40, 39, 7, 6, 5, 29, 0, 1] ?_))
                    show TrC _ _ _ _ [(16, _), (15, _), (119, _), (118, _), (117, _), (95, _), (94, _), (93, _), (92, _), (91, _), (81, _), (72, _), (46, _), (9, _), (42, _), (41, _), (40, _), (39, _), (7, _), (6, _), (5, _), (29, _), (0, _), (1, _)] _ _
                    refine tr_seq (fun K40 hK40 => ?_)
                    -- region 33: law.go:114
                    refine tr_region ?_
                    refine tr_val (ov_move rfl rfl) rfl rfl rfl ?_
                    refine tr_val (ov_move rfl rfl) rfl rfl rfl ?_
                    refine tr_splitb (t := 128) rfl (fun s128 => ?_) (fun s128 => ?_)
                    · skip
                      refine tr_val (ov_fieldAddr rfl Try.underlying30 rfl (Try.sizeOf2 _) (by decide) rfl) rfl rfl rfl ?_
                      refine tr_val (ov_load_blk H.get0 rfl (Try.isAgg2 _) rfl rfl rfl) rfl rfl rfl ?_
                      refine tr_val (ov_fieldAddr rfl Try.underlying74 rfl (Try.sizeOf2 _) (by decide) rfl) rfl rfl rfl ?_
                      refine tr_val (ov_load_blk H.get3 rfl (Try.isAgg2 _) rfl rfl rfl) rfl rfl rfl ?_
                      refine tr_val (ov_leq rfl rfl rfl) rfl rfl rfl ?_
                      refine tr_val (ov_pick (vb := undef) rfl rfl rfl rfl) rfl rfl rfl ?_
                      refine tr_nil (hK40 _ _ (TrC.keep [134, 15, 119, 118, 117, 95, 94, 93, 92, 91, 81, 72, 46, 9, 42, 41, 40, 39, 7, 6, 5, 29, 0, 1] ?_))
                      show TrC _ _ _ _ [(134, _), (15, _), (119, _), (118, _), (117, _), (95, _), (94, _), (93, _), (92, _), (91, _), (81, _), (72, _), (46, _), (9, _), (42, _), (41, _), (40, _), (39, _), (7, _), (6, _), (5, _), (29, _), (0, _), (1, _)] _ _
                      refine tr_cond rfl (fun c134 => ?_) (fun c134 => ?_)
                      · exfalso; have := harm.late s128; omega
                      · skip
                        refine tr_skip (hK37 _ _ (TrC.keep [134, 15, 119, 118, 117, 95, 94, 93, 92, 91, 81, 72, 46, 9, 42, 41, 40, 39, 7, 6, 5, 29, 0, 1] ?_))
                        show TrC _ _ _ _ [(134, _), (15, _), (119, _), (118, _), (117, _), (95, _), (94, _), (93, _), (92, _), (91, _), (81, _), (72, _), (46, _), (9, _), (42, _), (41, _), (40, _), (39, _), (7, _), (6, _), (5, _), (29, _), (0, _), (1, _)] _ _
                        -- region 35: law.go:113
                        refine tr_region ?_
                        refine tr_val (ov_add rfl rfl rfl (wu64 (by omega))) rfl rfl rfl ?_
                        refine tr_val (ov_move rfl rfl) rfl rfl rfl ?_
                        skip
                        exact tr_nil (hK34 (j + 1) _ _ (⟨by omega, by omega, H.drop0⟩) (by omega) (Sub.cons rfl (Sub.cons rfl (Sub.cons rfl (Sub.cons rfl (Sub.cons rfl (Sub.cons rfl (Sub.cons rfl (Sub.cons rfl (Sub.cons rfl (Sub.cons rfl (Sub.cons rfl (Sub.cons rfl (Sub.cons rfl (Sub.cons rfl (Sub.cons rfl (Sub.cons rfl (Sub.cons rfl (Sub.cons rfl (Sub.cons rfl (Sub.cons rfl (Sub.cons rfl Sub.nil))))))))))))))))))))))
                    · skip
                      refine tr_pass rfl rfl rfl ?_
                      refine tr_pass rfl rfl rfl ?_
                      refine tr_pass rfl rfl rfl ?_
                      refine tr_pass rfl rfl rfl ?_
                      refine tr_pass rfl rfl rfl ?_
                      refine tr_val (ov_pick_f (va := undef) rfl rfl rfl rfl) rfl rfl rfl ?_
                      refine tr_nil (hK40 _ _ (TrC.keep [134, 15, 119, 118, 117, 95, 94, 93, 92, 91, 81, 72, 46, 9, 42, 41, 40, 39, 7, 6, 5, 29, 0, 1] ?_))
                      show TrC _ _ _ _ [(134, _), (15, _), (119, _), (118, _), (117, _), (95, _), (94, _), (93, _), (92, _), (91, _), (81, _), (72, _), (46, _), (9, _), (42, _), (41, _), (40, _), (39, _), (7, _), (6, _), (5, _), (29, _), (0, _), (1, _)] _ _
                      refine tr_cond_f rfl rfl ?_
                      refine tr_skip (hK37 _ _ (TrC.keep [134, 15, 119, 118, 117, 95, 94, 93, 92, 91, 81, 72, 46, 9, 42, 41, 40, 39, 7, 6, 5, 29, 0, 1] ?_))
                      show TrC _ _ _ _ [(134, _), (15, _), (119, _), (118, _), (117, _), (95, _), (94, _), (93, _), (92, _), (91, _), (81, _), (72, _), (46, _), (9, _), (42, _), (41, _), (40, _), (39, _), (7, _), (6, _), (5, _), (29, _), (0, _), (1, _)] _ _
                      -- region 35: law.go:113
                      refine tr_region ?_
                      refine tr_val (ov_add rfl rfl rfl (wu64 (by omega))) rfl rfl rfl ?_
                      refine tr_val (ov_move rfl rfl) rfl rfl rfl ?_
                      skip
                      exact tr_nil (hK34 (j + 1) _ _ (⟨by omega, by omega, H.drop0⟩) (by omega) (Sub.cons rfl (Sub.cons rfl (Sub.cons rfl (Sub.cons rfl (Sub.cons rfl (Sub.cons rfl (Sub.cons rfl (Sub.cons rfl (Sub.cons rfl (Sub.cons rfl (Sub.cons rfl (Sub.cons rfl (Sub.cons rfl (Sub.cons rfl (Sub.cons rfl (Sub.cons rfl (Sub.cons rfl (Sub.cons rfl (Sub.cons rfl (Sub.cons rfl (Sub.cons rfl Sub.nil))))))))))))))))))))))
                  · skip
                    refine tr_exit (hK15 _ _ (TrC.keep [119, 118, 117, 95, 94, 93, 92, 91, 81, 72, 46, 9, 42, 41, 40, 39, 7, 6, 5, 29, 0, 1] ?_))
                    show TrC _ _ _ _ [(119, _), (118, _), (117, _), (95, _), (94, _), (93, _), (92, _), (91, _), (81, _), (72, _), (46, _), (9, _), (42, _), (41, _), (40, _), (39, _), (7, _), (6, _), (5, _), (29, _), (0, _), (1, _)] _ _
                    -- region 36: law.go:97
                    refine tr_region ?_
                    refine tr_val (ov_add rfl rfl rfl (w64 (by omega))) rfl rfl rfl ?_
                    refine tr_val (ov_move rfl rfl) rfl rfl rfl ?_
                    skip
                    exact tr_nil (hK12 (⟨i + 1, (advN n (gt Q i).at_), la, (X.filter fun t => decide ((gt Q i).at_ < t.due)), E, k1, E2, k2, L1⟩) _ _ (⟨by omega, by omega, hX1, harm, hg, H.drop0.drop1⟩) (by (dsimp only; omega)) (Sub.cons rfl (Sub.cons rfl (Sub.cons rfl (Sub.cons rfl (Sub.cons rfl (Sub.cons rfl (Sub.cons rfl (Sub.cons rfl (Sub.cons rfl Sub.nil))))))))))
            · skip
              refine tr_seq (fun K41 hK41 => ?_)
              -- region 10: law.go:119
              refine tr_region ?_
              refine tr_val (ov_move rfl rfl) rfl rfl rfl ?_
              refine tr_val (ov_fieldAddr rfl Try.underlying74 rfl (Try.sizeOf28 _) (by decide) rfl) rfl rfl rfl ?_
              refine tr_val (ov_load_blk H.get0 rfl (Try.isAgg28 _) rfl rfl rfl) rfl rfl rfl ?_
              refine tr_val (ov_fieldAddr rfl Try.underlying74 rfl (Try.sizeOf2 _) (by decide) rfl) rfl rfl rfl ?_
              refine tr_val (ov_load_blk H.get0 rfl (Try.isAgg2 _) rfl rfl rfl) rfl rfl rfl ?_
              refine tr_call (bSet_c b n la X L _ hX H.get1 (gt Q i).id (gt Q i).at_) rfl rfl rfl Try.call32 rfl rfl rfl ?_
              rintro _ w19 ⟨rfl, L1, hX1, HC⟩
              have H := H.top1.call1 HC
              refine tr_val (ov_move rfl rfl) rfl rfl rfl ?_
              refine tr_val (ov_extract rfl rfl rfl) rfl rfl rfl ?_
              refine tr_val (ov_extract rfl rfl rfl) rfl rfl rfl ?_
              refine tr_val (ov_assign rfl rfl) rfl rfl rfl ?_
              refine tr_val (ov_assign rfl rfl) rfl rfl rfl ?_
              refine tr_nil (hK41 _ _ (TrC.keep [18, 17, 81, 72, 46, 9, 42, 41, 40, 39, 7, 6, 5, 29, 0, 1] ?_))
              show TrC _ _ _ _ [(18, _), (17, _), (81, _), (72, _), (46, _), (9, _), (42, _), (41, _), (40, _), (39, _), (7, _), (6, _), (5, _), (29, _), (0, _), (1, _)] _ _
              refine tr_seq (fun K42 hK42 => ?_)
              refine tr_seq (fun K43 hK43 => ?_)
              -- region 11: law.go:120
              refine tr_region ?_
              refine tr_val (ov_move rfl rfl) rfl rfl rfl ?_
              refine tr_val (ov_neq rfl rfl rfl) rfl rfl rfl ?_
              refine tr_nil (hK43 _ _ (TrC.keep [57, 17, 81, 72, 46, 9, 42, 41, 40, 39, 7, 6, 5, 29, 0, 1] ?_))
              show TrC _ _ _ _ [(57, _), (17, _), (81, _), (72, _), (46, _), (9, _), (42, _), (41, _), (40, _), (39, _), (7, _), (6, _), (5, _), (29, _), (0, _), (1, _)] _ _
              refine tr_cond rfl (fun c57 => ?_) (fun c57 => ?_)
              · skip
                refine tr_exit (hK15 _ _ (TrC.keep [57, 17, 81, 72, 46, 9, 42, 41, 40, 39, 7, 6, 5, 29, 0, 1] ?_))
                show TrC _ _ _ _ [(57, _), (17, _), (81, _), (72, _), (46, _), (9, _), (42, _), (41, _), (40, _), (39, _), (7, _), (6, _), (5, _), (29, _), (0, _), (1, _)] _ _
                -- region 36: law.go:97
                refine tr_region ?_
                refine tr_val (ov_add rfl rfl rfl (w64 (by omega))) rfl rfl rfl ?_
                refine tr_val (ov_move rfl rfl) rfl rfl rfl ?_
                skip
                exact tr_nil (hK12 (⟨i + 1, n, (setN la X (gt Q i).id (gt Q i).at_), (setX la X (gt Q i).id (gt Q i).at_), E1, k1, E2, k2, L1⟩) _ _ (⟨by omega, by omega, hX1, (by unfold setX; rw [if_neg c57]; exact ha), (by unfold setN; rw [if_neg c57]; exact hg), H.drop1⟩) (by (dsimp only; omega)) (Sub.cons rfl (Sub.cons rfl (Sub.cons rfl (Sub.cons rfl (Sub.cons rfl (Sub.cons rfl (Sub.cons rfl (Sub.cons rfl (Sub.cons rfl Sub.nil))))))))))
              · skip
                refine tr_skip (hK42 _ _ (TrC.keep [57, 17, 81, 72, 46, 9, 42, 41, 40, 39, 7, 6, 5, 29, 0, 1] ?_))
                show TrC _ _ _ _ [(57, _), (17, _), (81, _), (72, _), (46, _), (9, _), (42, _), (41, _), (40, _), (39, _), (7, _), (6, _), (5, _), (29, _), (0, _), (1, _)] _ _
                refine tr_seq (fun K44 hK44 => ?_)
                refine tr_seq (fun K45 hK45 => ?_)
                -- region 12: law.go:123
                have he : setE la X (gt Q i).id (gt Q i).at_ = 0 := Classical.not_not.mp c57
                have e1 : setR la X (gt Q i).id (gt Q i).at_ = la + 1 := by unfold setR; rw [if_pos he]
                have e2 : setN la X (gt Q i).id (gt Q i).at_ = la + 1 := by unfold setN; rw [if_pos he]
                have e3 : setX la X (gt Q i).id (gt Q i).at_ = dropT (gt Q i).id X ++ [⟨(gt Q i).id, la + 1, (gt Q i).at_⟩] := by unfold setX; rw [if_pos he]
                rw [e2, e3] at hX1
                rw [e1]
                refine tr_region ?_
                refine tr_val (ov_move rfl rfl) rfl rfl rfl ?_
                refine tr_val (ov_move rfl rfl) rfl rfl rfl ?_
                refine tr_val (ov_eq (ov_lookup1 H.get3 rfl Try.underlying72 Try.underlying28 (Try.zeroValue4 _) rfl rfl) (met_val hg.all (la + 1))) rfl rfl rfl ?_
                refine tr_nil (hK45 _ _ (TrC.keep [60, 57, 17, 81, 72, 46, 9, 42, 41, 40, 39, 7, 6, 5, 29, 0, 1] ?_))
                show TrC _ _ _ _ [(60, _), (57, _), (17, _), (81, _), (72, _), (46, _), (9, _), (42, _), (41, _), (40, _), (39, _), (7, _), (6, _), (5, _), (29, _), (0, _), (1, _)] _ _
                refine tr_condb rfl (fun c60 => ?_) (fun c60 => ?_)
                · exfalso; rw [hg.new] at c60; cases c60
                · skip
                  refine tr_skip (hK44 _ _ (TrC.keep [60, 57, 17, 81, 72, 46, 9, 42, 41, 40, 39, 7, 6, 5, 29, 0, 1] ?_))
                  show TrC _ _ _ _ [(60, _), (57, _), (17, _), (81, _), (72, _), (46, _), (9, _), (42, _), (41, _), (40, _), (39, _), (7, _), (6, _), (5, _), (29, _), (0, _), (1, _)] _ _
                  refine tr_seq (fun K46 hK46 => ?_)
                  -- region 14: law.go:126
                  refine tr_region ?_
                  refine tr_val (ov_move rfl rfl) rfl rfl rfl ?_
                  refine tr_val (ov_move rfl rfl) rfl rfl rfl ?_
                  refine tr_mapSet (u := true) H.get3 rfl Try.underlying72 Try.underlying28 rfl rfl rfl rfl rfl ?_
                  intro w39 U; have H := H.upd3 U; clear U
                  refine tr_nil (hK46 _ _ (TrC.keep [60, 57, 17, 81, 72, 46, 9, 42, 41, 40, 39, 7, 6, 5, 29, 0, 1] ?_))
                  show TrC _ _ _ _ [(60, _), (57, _), (17, _), (81, _), (72, _), (46, _), (9, _), (42, _), (41, _), (40, _), (39, _), (7, _), (6, _), (5, _), (29, _), (0, _), (1, _)] _ _
                  -- region 15: law.go:127
                  refine tr_region ?_
                  refine tr_val (ov_move rfl rfl) rfl rfl rfl ?_
                  refine tr_val (ov_fieldAddr rfl Try.underlying74 rfl (Try.sizeOf28 _) (by decide) rfl) rfl rfl rfl ?_
                  refine tr_val (ov_load_blk H.get1 rfl (Try.isAgg28 _) rfl rfl rfl) rfl rfl rfl ?_
                  refine tr_val (ov_fieldAddr rfl Try.underlying74 rfl (Try.sizeOf28 _) (by decide) rfl) rfl rfl rfl ?_
                  refine tr_val (ov_load_blk H.get1 rfl (Try.isAgg28 _) rfl rfl rfl) rfl rfl rfl ?_
                  refine tr_val (ov_move rfl rfl) rfl rfl rfl ?_
                  refine tr_val (ov_fieldAddr rfl Try.underlying74 rfl (Try.sizeOf2 _) (by decide) rfl) rfl rfl rfl ?_
                  refine tr_val (ov_load_blk H.get1 rfl (Try.isAgg2 _) rfl rfl rfl) rfl rfl rfl ?_
                  refine tr_val (ov_build rfl (fun ρ k => bs3 k rfl rfl rfl) (bld30_0_1_2 _ _ _ _)) rfl rfl rfl ?_
                  refine tr_mapSet (u := (⟨(gt Q i).id, la + 1, (gt Q i).at_⟩ : Thing)) H.get2 rfl Try.underlying71 Try.underlying28 rfl rfl rfl rfl rfl ?_
                  intro w49 U; have H := H.upd2 U; clear U
                  refine tr_nil (hK15 _ _ (TrC.keep [60, 57, 17, 81, 72, 46, 9, 42, 41, 40, 39, 7, 6, 5, 29, 0, 1] ?_))
                  show TrC _ _ _ _ [(60, _), (57, _), (17, _), (81, _), (72, _), (46, _), (9, _), (42, _), (41, _), (40, _), (39, _), (7, _), (6, _), (5, _), (29, _), (0, _), (1, _)] _ _
                  -- region 36: law.go:97
                  refine tr_region ?_
                  refine tr_val (ov_add rfl rfl rfl (w64 (by omega))) rfl rfl rfl ?_
                  refine tr_val (ov_move rfl rfl) rfl rfl rfl ?_
                  skip
                  exact tr_nil (hK12 (⟨i + 1, n, (la + 1), (dropT (gt Q i).id X ++ [⟨(gt Q i).id, la + 1, (gt Q i).at_⟩]), (mset (gt Q i).id ⟨(gt Q i).id, la + 1, (gt Q i).at_⟩ k1 E1), (msetC (gt Q i).id E1 k1), (mset (la + 1) true k2 E2), (msetC (la + 1) E2 k2), L1⟩) _ _ (⟨by omega, by omega, hX1, ha.set hids, hg.set, H.drop1⟩) (by (dsimp only; omega)) (Sub.cons rfl (Sub.cons rfl (Sub.cons rfl (Sub.cons rfl (Sub.cons rfl (Sub.cons rfl (Sub.cons rfl (Sub.cons rfl (Sub.cons rfl Sub.nil))))))))))
        · skip
          refine tr_exit (hK10 _ _ (TrC.keep [42, 41, 40, 39, 7, 6, 5, 29, 0, 1] ?_))
          show TrC _ _ _ _ [(42, _), (41, _), (40, _), (39, _), (7, _), (6, _), (5, _), (29, _), (0, _), (1, _)] _ _
          refine tr_seq (fun K47 hK47 => ?_)
          -- region 37: law.go:130
          refine tr_region ?_
          refine tr_val (ov_move rfl rfl) rfl rfl rfl ?_
          refine tr_call (bState_c b n la X L _ hX H.get0) rfl rfl rfl Try.call33 rfl rfl rfl ?_
          rintro _ w20 ⟨A1, c1, rfl, HC⟩
          have H := H.call0r HC
          have hsl := sortT_len X
          have hln := ha.len hids
          refine tr_val (ov_fieldV rfl Try.underlying78 rfl (Try.isAgg32 _) rfl rfl) rfl rfl rfl ?_
          refine tr_val (ov_len rfl rfl Try.underlying32 rfl) rfl rfl rfl ?_
          refine tr_val (ov_move rfl rfl) rfl rfl rfl ?_
          refine tr_val (ov_lenMap H.get2 rfl rfl Try.underlying71 rfl) rfl rfl rfl ?_
          refine tr_val (ov_eql rfl rfl rfl) rfl rfl rfl ?_
          refine tr_val (ov_move rfl rfl) rfl rfl rfl ?_
          refine tr_split (t := 144) rfl (fun s144 => ?_) (fun s144 => ?_)
          · skip
            refine tr_call (lives13_c _) rfl rfl rfl Try.call29 rfl rfl rfl ?_
            rintro _ w21 ⟨rfl, HC⟩
            have H := H.call0n HC
            refine tr_val (ov_pick (vb := undef) rfl rfl rfl rfl) rfl rfl rfl ?_
            refine tr_val (ov_assign rfl rfl) rfl rfl rfl ?_
            refine tr_nil (hK47 _ _ (TrC.keep [4, 42, 41, 40, 39, 7, 6, 5, 29, 0, 1] ?_))
            show TrC _ _ _ _ [(4, _), (42, _), (41, _), (40, _), (39, _), (7, _), (6, _), (5, _), (29, _), (0, _), (1, _)] _ _
            refine tr_ret (post_ret1 (.inr rfl) rfl rfl ?_)
            exact ⟨rfl, H.drop0.drop0.drop0.drop0⟩
          · exfalso; omega

end Go.Proofs.Ytblipnjjgbggiaa
