/- slices.SortStableFunc at things: contracts of all that it calls. Conditions: none. -/
import Derived.Test.YtblipnjjgbggiaaSrd
import Derived.Test.YtblipnjjgbggiaaFacts
import Derived.Test.YtblipnjjgbggiaaHop
namespace Go.Proofs.Ytblipnjjgbggiaa
open Go Go.RowKit
set_option linter.unusedVariables false
set_option linter.unusedSimpArgs false

/-! cmp.isNaN[int64] -/
set_option maxRecDepth 20000 in
theorem isNaN_i64 (a : Int) (w : World) : Does Try.prog 113 #[.int .i64 a] w (fun v w' => v = .bool false ∧ SH w noBlocks [] w') := by
  refine does_enter1 Try.func113 rfl Try.ntmps113 rfl ?_
  have H := SH.start w noBlocks
  refine tr_seq (fun K1 hK1 => ?_)
  -- region 0: cmp.go:63
  refine tr_region ?_
  refine tr_val (ov_assign rfl rfl) rfl rfl rfl ?_
  refine tr_nil (hK1 _ _ (TrC.keep [2, 0] ?_))
  show TrC _ _ _ _ [(2, _), (0, _)] _ _
  refine tr_seq (fun K2 hK2 => ?_)
  -- region 1: cmp.go:64
  refine tr_region ?_
  refine tr_val (ov_move rfl rfl) rfl rfl rfl ?_
  refine tr_val (ov_move rfl rfl) rfl rfl rfl ?_
  refine tr_val (ov_neq rfl rfl rfl) rfl rfl rfl ?_
  refine tr_val (ov_assign rfl rfl) rfl rfl rfl ?_
  refine tr_nil (hK2 _ _ (TrC.keep [2] ?_))
  show TrC _ _ _ _ [(2, _)] _ _
  refine tr_ret (post_ret1 (.inr rfl) rfl rfl ?_)
  exact ⟨congrArg Value.bool (decide_eq_false (by simp)), H⟩

/-! cmp.Compare[int64] -/
set_option maxRecDepth 20000 in
theorem Compare_i64 (a b : Int) (w : World) : Does Try.prog 99 #[.int .i64 a, .int .i64 b] w (fun v w' => v = .int .i64 (cmpI a b) ∧ SH w noBlocks [] w') := by
  refine does_enter2 Try.func99 rfl Try.ntmps99 rfl ?_
  have H := SH.start w noBlocks
  refine tr_seq (fun K1 hK1 => ?_)
  -- region 0: cmp.go:40
  refine tr_region ?_
  refine tr_val (ov_assign rfl rfl) rfl rfl rfl ?_
  refine tr_nil (hK1 _ _ (TrC.keep [4, 0, 1] ?_))
  show TrC _ _ _ _ [(4, _), (0, _), (1, _)] _ _
  refine tr_seq (fun K2 hK2 => ?_)
  -- region 1: cmp.go:41
  refine tr_region ?_
  refine tr_val (ov_move rfl rfl) rfl rfl rfl ?_
  refine tr_call (isNaN_i64 a _) rfl rfl rfl Try.call113 rfl rfl rfl ?_
  rintro _ w1 ⟨rfl, HC⟩
  have H := H.call0n HC
  refine tr_val (ov_assign rfl rfl) rfl rfl rfl ?_
  refine tr_nil (hK2 _ _ (TrC.keep [5, 4, 0, 1] ?_))
  show TrC _ _ _ _ [(5, _), (4, _), (0, _), (1, _)] _ _
  refine tr_seq (fun K3 hK3 => ?_)
  -- region 2: cmp.go:42
  refine tr_region ?_
  refine tr_val (ov_move rfl rfl) rfl rfl rfl ?_
  refine tr_call (isNaN_i64 b _) rfl rfl rfl Try.call113 rfl rfl rfl ?_
  rintro _ w2 ⟨rfl, HC⟩
  have H := H.call0n HC
  refine tr_val (ov_assign rfl rfl) rfl rfl rfl ?_
  refine tr_nil (hK3 _ _ (TrC.keep [6, 5, 4, 0, 1] ?_))
  show TrC _ _ _ _ [(6, _), (5, _), (4, _), (0, _), (1, _)] _ _
  refine tr_seq (fun K4 hK4 => ?_)
  refine tr_seq (fun K5 hK5 => ?_)
  -- region 3: cmp.go:43
  refine tr_region ?_
  refine tr_val (ov_move rfl rfl) rfl rfl rfl ?_
  refine tr_nil (hK5 _ _ (TrC.keep [11, 6, 4, 0, 1] ?_))
  show TrC _ _ _ _ [(11, _), (6, _), (4, _), (0, _), (1, _)] _ _
  refine tr_condb rfl (fun c11 => ?_) (fun c11 => ?_)
  · cases c11
  · skip
    refine tr_skip (hK4 _ _ (TrC.keep [11, 6, 4, 0, 1] ?_))
    show TrC _ _ _ _ [(11, _), (6, _), (4, _), (0, _), (1, _)] _ _
    refine tr_seq (fun K6 hK6 => ?_)
    refine tr_seq (fun K7 hK7 => ?_)
    -- region 7: cmp.go:49
    refine tr_region ?_
    refine tr_val (ov_move rfl rfl) rfl rfl rfl ?_
    refine tr_nil (hK7 _ _ (TrC.keep [13, 11, 6, 4, 0, 1] ?_))
    show TrC _ _ _ _ [(13, _), (11, _), (6, _), (4, _), (0, _), (1, _)] _ _
    refine tr_condb rfl (fun c13 => ?_) (fun c13 => ?_)
    · cases c13
    · skip
      refine tr_skip (hK6 _ _ (TrC.keep [13, 11, 6, 4, 0, 1] ?_))
      show TrC _ _ _ _ [(13, _), (11, _), (6, _), (4, _), (0, _), (1, _)] _ _
      refine tr_seq (fun K8 hK8 => ?_)
      refine tr_seq (fun K9 hK9 => ?_)
      -- region 9: cmp.go:52
      refine tr_region ?_
      refine tr_val (ov_move rfl rfl) rfl rfl rfl ?_
      refine tr_val (ov_move rfl rfl) rfl rfl rfl ?_
      refine tr_val (ov_lss rfl rfl rfl) rfl rfl rfl ?_
      refine tr_nil (hK9 _ _ (TrC.keep [16, 13, 11, 6, 4, 0, 1] ?_))
      show TrC _ _ _ _ [(16, _), (13, _), (11, _), (6, _), (4, _), (0, _), (1, _)] _ _
      refine tr_cond rfl (fun c16 => ?_) (fun c16 => ?_)
      · skip
        refine tr_seq (fun K10 hK10 => ?_)
        -- region 10: cmp.go:53
        refine tr_region ?_
        refine tr_val (ov_assign rfl rfl) rfl rfl rfl ?_
        refine tr_nil (hK10 _ _ (TrC.keep [4, 16, 13, 11, 6, 0, 1] ?_))
        show TrC _ _ _ _ [(4, _), (16, _), (13, _), (11, _), (6, _), (0, _), (1, _)] _ _
        refine tr_ret (post_ret1 (.inr rfl) rfl rfl ?_)
        unfold cmpI; rw [if_pos c16]; exact ⟨rfl, H⟩
      · skip
        refine tr_skip (hK8 _ _ (TrC.keep [16, 13, 11, 6, 4, 0, 1] ?_))
        show TrC _ _ _ _ [(16, _), (13, _), (11, _), (6, _), (4, _), (0, _), (1, _)] _ _
        refine tr_seq (fun K11 hK11 => ?_)
        refine tr_seq (fun K12 hK12 => ?_)
        -- region 11: cmp.go:55
        refine tr_region ?_
        refine tr_val (ov_move rfl rfl) rfl rfl rfl ?_
        refine tr_val (ov_move rfl rfl) rfl rfl rfl ?_
        refine tr_val (ov_gtr rfl rfl rfl) rfl rfl rfl ?_
        refine tr_nil (hK12 _ _ (TrC.keep [19, 16, 13, 11, 6, 4, 0, 1] ?_))
        show TrC _ _ _ _ [(19, _), (16, _), (13, _), (11, _), (6, _), (4, _), (0, _), (1, _)] _ _
        refine tr_cond rfl (fun c19 => ?_) (fun c19 => ?_)
        · skip
          refine tr_seq (fun K13 hK13 => ?_)
          -- region 12: cmp.go:56
          refine tr_region ?_
          refine tr_val (ov_assign rfl rfl) rfl rfl rfl ?_
          refine tr_nil (hK13 _ _ (TrC.keep [4, 19, 16, 13, 11, 6, 0, 1] ?_))
          show TrC _ _ _ _ [(4, _), (19, _), (16, _), (13, _), (11, _), (6, _), (0, _), (1, _)] _ _
          refine tr_ret (post_ret1 (.inr rfl) rfl rfl ?_)
          unfold cmpI; rw [if_neg c16, if_pos (by omega)]; exact ⟨rfl, H⟩
        · skip
          refine tr_skip (hK11 _ _ (TrC.keep [19, 16, 13, 11, 6, 4, 0, 1] ?_))
          show TrC _ _ _ _ [(19, _), (16, _), (13, _), (11, _), (6, _), (4, _), (0, _), (1, _)] _ _
          refine tr_seq (fun K14 hK14 => ?_)
          -- region 13: cmp.go:58
          refine tr_region ?_
          refine tr_val (ov_assign rfl rfl) rfl rfl rfl ?_
          refine tr_nil (hK14 _ _ (TrC.keep [4, 19, 16, 13, 11, 6, 0, 1] ?_))
          show TrC _ _ _ _ [(4, _), (19, _), (16, _), (13, _), (11, _), (6, _), (0, _), (1, _)] _ _
          refine tr_ret (post_ret1 (.inr rfl) rfl rfl ?_)
          unfold cmpI; rw [if_neg c16, if_neg (by omega)]; exact ⟨rfl, H⟩

/-! cmp.isNaN[uint64] -/
set_option maxRecDepth 20000 in
theorem isNaN_u64 (a : Int) (w : World) : Does Try.prog 114 #[.int .u64 a] w (fun v w' => v = .bool false ∧ SH w noBlocks [] w') := by
  refine does_enter1 Try.func114 rfl Try.ntmps114 rfl ?_
  have H := SH.start w noBlocks
  refine tr_seq (fun K1 hK1 => ?_)
  -- region 0: cmp.go:63
  refine tr_region ?_
  refine tr_val (ov_assign rfl rfl) rfl rfl rfl ?_
  refine tr_nil (hK1 _ _ (TrC.keep [2, 0] ?_))
  show TrC _ _ _ _ [(2, _), (0, _)] _ _
  refine tr_seq (fun K2 hK2 => ?_)
  -- region 1: cmp.go:64
  refine tr_region ?_
  refine tr_val (ov_move rfl rfl) rfl rfl rfl ?_
  refine tr_val (ov_move rfl rfl) rfl rfl rfl ?_
  refine tr_val (ov_neq rfl rfl rfl) rfl rfl rfl ?_
  refine tr_val (ov_assign rfl rfl) rfl rfl rfl ?_
  refine tr_nil (hK2 _ _ (TrC.keep [2] ?_))
  show TrC _ _ _ _ [(2, _)] _ _
  refine tr_ret (post_ret1 (.inr rfl) rfl rfl ?_)
  exact ⟨congrArg Value.bool (decide_eq_false (by simp)), H⟩

/-! cmp.Compare[uint64] -/
set_option maxRecDepth 20000 in
theorem Compare_u64 (a b : Int) (w : World) : Does Try.prog 100 #[.int .u64 a, .int .u64 b] w (fun v w' => v = .int .i64 (cmpI a b) ∧ SH w noBlocks [] w') := by
  refine does_enter2 Try.func100 rfl Try.ntmps100 rfl ?_
  have H := SH.start w noBlocks
  refine tr_seq (fun K1 hK1 => ?_)
  -- region 0: cmp.go:40
  refine tr_region ?_
  refine tr_val (ov_assign rfl rfl) rfl rfl rfl ?_
  refine tr_nil (hK1 _ _ (TrC.keep [4, 0, 1] ?_))
  show TrC _ _ _ _ [(4, _), (0, _), (1, _)] _ _
  refine tr_seq (fun K2 hK2 => ?_)
  -- region 1: cmp.go:41
  refine tr_region ?_
  refine tr_val (ov_move rfl rfl) rfl rfl rfl ?_
  refine tr_call (isNaN_u64 a _) rfl rfl rfl Try.call114 rfl rfl rfl ?_
  rintro _ w1 ⟨rfl, HC⟩
  have H := H.call0n HC
  refine tr_val (ov_assign rfl rfl) rfl rfl rfl ?_
  refine tr_nil (hK2 _ _ (TrC.keep [5, 4, 0, 1] ?_))
  show TrC _ _ _ _ [(5, _), (4, _), (0, _), (1, _)] _ _
  refine tr_seq (fun K3 hK3 => ?_)
  -- region 2: cmp.go:42
  refine tr_region ?_
  refine tr_val (ov_move rfl rfl) rfl rfl rfl ?_
  refine tr_call (isNaN_u64 b _) rfl rfl rfl Try.call114 rfl rfl rfl ?_
  rintro _ w2 ⟨rfl, HC⟩
  have H := H.call0n HC
  refine tr_val (ov_assign rfl rfl) rfl rfl rfl ?_
  refine tr_nil (hK3 _ _ (TrC.keep [6, 5, 4, 0, 1] ?_))
  show TrC _ _ _ _ [(6, _), (5, _), (4, _), (0, _), (1, _)] _ _
  refine tr_seq (fun K4 hK4 => ?_)
  refine tr_seq (fun K5 hK5 => ?_)
  -- region 3: cmp.go:43
  refine tr_region ?_
  refine tr_val (ov_move rfl rfl) rfl rfl rfl ?_
  refine tr_nil (hK5 _ _ (TrC.keep [11, 6, 4, 0, 1] ?_))
  show TrC _ _ _ _ [(11, _), (6, _), (4, _), (0, _), (1, _)] _ _
  refine tr_condb rfl (fun c11 => ?_) (fun c11 => ?_)
  · cases c11
  · skip
    refine tr_skip (hK4 _ _ (TrC.keep [11, 6, 4, 0, 1] ?_))
    show TrC _ _ _ _ [(11, _), (6, _), (4, _), (0, _), (1, _)] _ _
    refine tr_seq (fun K6 hK6 => ?_)
    refine tr_seq (fun K7 hK7 => ?_)
    -- region 7: cmp.go:49
    refine tr_region ?_
    refine tr_val (ov_move rfl rfl) rfl rfl rfl ?_
    refine tr_nil (hK7 _ _ (TrC.keep [13, 11, 6, 4, 0, 1] ?_))
    show TrC _ _ _ _ [(13, _), (11, _), (6, _), (4, _), (0, _), (1, _)] _ _
    refine tr_condb rfl (fun c13 => ?_) (fun c13 => ?_)
    · cases c13
    · skip
      refine tr_skip (hK6 _ _ (TrC.keep [13, 11, 6, 4, 0, 1] ?_))
      show TrC _ _ _ _ [(13, _), (11, _), (6, _), (4, _), (0, _), (1, _)] _ _
      refine tr_seq (fun K8 hK8 => ?_)
      refine tr_seq (fun K9 hK9 => ?_)
      -- region 9: cmp.go:52
      refine tr_region ?_
      refine tr_val (ov_move rfl rfl) rfl rfl rfl ?_
      refine tr_val (ov_move rfl rfl) rfl rfl rfl ?_
      refine tr_val (ov_lss rfl rfl rfl) rfl rfl rfl ?_
      refine tr_nil (hK9 _ _ (TrC.keep [16, 13, 11, 6, 4, 0, 1] ?_))
      show TrC _ _ _ _ [(16, _), (13, _), (11, _), (6, _), (4, _), (0, _), (1, _)] _ _
      refine tr_cond rfl (fun c16 => ?_) (fun c16 => ?_)
      · skip
        refine tr_seq (fun K10 hK10 => ?_)
        -- region 10: cmp.go:53
        refine tr_region ?_
        refine tr_val (ov_assign rfl rfl) rfl rfl rfl ?_
        refine tr_nil (hK10 _ _ (TrC.keep [4, 16, 13, 11, 6, 0, 1] ?_))
        show TrC _ _ _ _ [(4, _), (16, _), (13, _), (11, _), (6, _), (0, _), (1, _)] _ _
        refine tr_ret (post_ret1 (.inr rfl) rfl rfl ?_)
        unfold cmpI; rw [if_pos c16]; exact ⟨rfl, H⟩
      · skip
        refine tr_skip (hK8 _ _ (TrC.keep [16, 13, 11, 6, 4, 0, 1] ?_))
        show TrC _ _ _ _ [(16, _), (13, _), (11, _), (6, _), (4, _), (0, _), (1, _)] _ _
        refine tr_seq (fun K11 hK11 => ?_)
        refine tr_seq (fun K12 hK12 => ?_)
        -- region 11: cmp.go:55
        refine tr_region ?_
        refine tr_val (ov_move rfl rfl) rfl rfl rfl ?_
        refine tr_val (ov_move rfl rfl) rfl rfl rfl ?_
        refine tr_val (ov_gtr rfl rfl rfl) rfl rfl rfl ?_
        refine tr_nil (hK12 _ _ (TrC.keep [19, 16, 13, 11, 6, 4, 0, 1] ?_))
        show TrC _ _ _ _ [(19, _), (16, _), (13, _), (11, _), (6, _), (4, _), (0, _), (1, _)] _ _
        refine tr_cond rfl (fun c19 => ?_) (fun c19 => ?_)
        · skip
          refine tr_seq (fun K13 hK13 => ?_)
          -- region 12: cmp.go:56
          refine tr_region ?_
          refine tr_val (ov_assign rfl rfl) rfl rfl rfl ?_
          refine tr_nil (hK13 _ _ (TrC.keep [4, 19, 16, 13, 11, 6, 0, 1] ?_))
          show TrC _ _ _ _ [(4, _), (19, _), (16, _), (13, _), (11, _), (6, _), (0, _), (1, _)] _ _
          refine tr_ret (post_ret1 (.inr rfl) rfl rfl ?_)
          unfold cmpI; rw [if_neg c16, if_pos (by omega)]; exact ⟨rfl, H⟩
        · skip
          refine tr_skip (hK11 _ _ (TrC.keep [19, 16, 13, 11, 6, 4, 0, 1] ?_))
          show TrC _ _ _ _ [(19, _), (16, _), (13, _), (11, _), (6, _), (4, _), (0, _), (1, _)] _ _
          refine tr_seq (fun K14 hK14 => ?_)
          -- region 13: cmp.go:58
          refine tr_region ?_
          refine tr_val (ov_assign rfl rfl) rfl rfl rfl ?_
          refine tr_nil (hK14 _ _ (TrC.keep [4, 19, 16, 13, 11, 6, 0, 1] ?_))
          show TrC _ _ _ _ [(4, _), (19, _), (16, _), (13, _), (11, _), (6, _), (0, _), (1, _)] _ _
          refine tr_ret (post_ret1 (.inr rfl) rfl rfl ?_)
          unfold cmpI; rw [if_neg c16, if_neg (by omega)]; exact ⟨rfl, H⟩

/-! cmp.Or[int] -/
set_option maxRecDepth 20000 in
theorem Or_c (B : Option Addr) (c : Nat) (L : List Int) (w : World) (hR : Rd w B 1 (L.map encI64)) (hL : L.length ≤ 4294967296) : Does Try.prog 98 #[.slice B L.length c] w (fun v w' => v = .int .i64 (orL L) ∧ SH w noBlocks [] w') := by
  refine does_enter1 Try.func98 rfl Try.ntmps98 rfl ?_
  have H := SH.start w noBlocks
  refine tr_seq (fun K1 hK1 => ?_)
  -- region 0: cmp.go:69
  refine tr_region ?_
  refine tr_val (ov_assign rfl rfl) rfl rfl rfl ?_
  refine tr_nil (hK1 _ _ (TrC.keep [2, 0] ?_))
  show TrC _ _ _ _ [(2, _), (0, _)] _ _
  refine tr_seq (fun K2 hK2 => ?_)
  -- region 1: cmp.go:70
  refine tr_region ?_
  refine tr_val (ov_assign rfl rfl) rfl rfl rfl ?_
  refine tr_nil (hK2 _ _ (TrC.keep [3, 2, 0] ?_))
  show TrC _ _ _ _ [(3, _), (2, _), (0, _)] _ _
  refine tr_seq (fun K3 hK3 => ?_)
  refine tr_seq (fun K4 hK4 => ?_)
  -- region 2: cmp.go:71
  refine tr_region ?_
  refine tr_val (ov_move rfl rfl) rfl rfl rfl ?_
  refine tr_val (ov_len rfl rfl Try.underlying183 rfl) rfl rfl rfl ?_
  refine tr_val (ov_move rfl rfl) rfl rfl rfl ?_
  refine tr_nil (hK4 _ _ (TrC.keep [8, 7, 6, 3, 2] ?_))
  show TrC _ _ _ _ [(8, _), (7, _), (6, _), (3, _), (2, _)] _ _
  refine tr_block ?_
  refine tr_loop_ (X := Int) [7, 6, 3] (fun i => [(8, .int .i64 i)]) (fun i w' => 0 ≤ i ∧ i ≤ L.length ∧ orL (L.drop i.toNat) = orL L ∧ SH w noBlocks [] w') (fun i => (L.length - i).toNat) (0) (Sub.cons rfl (Sub.cons rfl (Sub.cons rfl (Sub.cons rfl Sub.nil)))) (⟨by omega, by omega, rfl, H⟩) ?_
  rintro i w1 ⟨hi0, hi1, hx, H⟩ K5 hK5
  show TrC _ _ _ _ [(8, _), (7, _), (6, _), (3, _)] _ _
  refine tr_seq (fun K6 hK6 => ?_)
  -- region 3: cmp.go:71
  refine tr_region ?_
  refine tr_val (ov_lss rfl rfl rfl) rfl rfl rfl ?_
  refine tr_nil (hK6 _ _ (TrC.keep [9, 8, 7, 6, 3] ?_))
  show TrC _ _ _ _ [(9, _), (8, _), (7, _), (6, _), (3, _)] _ _
  refine tr_seq (fun K7 hK7 => ?_)
  refine tr_cond rfl (fun c9 => ?_) (fun c9 => ?_)
  · skip
    refine tr_skip (hK7 _ _ (TrC.keep [9, 8, 7, 6, 3] ?_))
    show TrC _ _ _ _ [(9, _), (8, _), (7, _), (6, _), (3, _)] _ _
    refine tr_seq (fun K8 hK8 => ?_)
    refine tr_block ?_
    refine tr_seq (fun K9 hK9 => ?_)
    -- region 4: cmp.go:71
    refine tr_region ?_
    refine tr_val (ov_indexAddrR (H.rd0 hR) rfl Try.underlying183 (Try.sizeOf3 _) rfl rfl (by omega) (by omega)) rfl rfl rfl ?_
    refine tr_val (ld_I64 (H.rd0 hR) rfl (Try.isAgg3 _) rfl (by omega) (by omega)) rfl rfl rfl ?_
    refine tr_val (ov_assign rfl rfl) rfl rfl rfl ?_
    refine tr_nil (hK9 _ _ (TrC.keep [5, 9, 8, 7, 6, 3] ?_))
    show TrC _ _ _ _ [(5, _), (9, _), (8, _), (7, _), (6, _), (3, _)] _ _
    refine tr_seq (fun K10 hK10 => ?_)
    -- region 5: cmp.go:72
    refine tr_region ?_
    refine tr_val (ov_move rfl rfl) rfl rfl rfl ?_
    refine tr_val (ov_move rfl rfl) rfl rfl rfl ?_
    refine tr_val (ov_neq rfl rfl rfl) rfl rfl rfl ?_
    refine tr_nil (hK10 _ _ (TrC.keep [14, 5, 9, 8, 7, 6, 3] ?_))
    show TrC _ _ _ _ [(14, _), (5, _), (9, _), (8, _), (7, _), (6, _), (3, _)] _ _
    refine tr_cond rfl (fun c14 => ?_) (fun c14 => ?_)
    · skip
      refine tr_seq (fun K11 hK11 => ?_)
      -- region 6: cmp.go:73
      refine tr_region ?_
      refine tr_val (ov_move rfl rfl) rfl rfl rfl ?_
      refine tr_val (ov_assign rfl rfl) rfl rfl rfl ?_
      refine tr_nil (hK11 _ _ (TrC.keep [2, 14, 5, 9, 8, 7, 6, 3] ?_))
      show TrC _ _ _ _ [(2, _), (14, _), (5, _), (9, _), (8, _), (7, _), (6, _), (3, _)] _ _
      refine tr_ret (post_ret1 (.inr rfl) rfl rfl ?_)
      rw [← hx, or_step hi0 (by omega), if_pos (by omega)]; exact ⟨rfl, H⟩
    · skip
      refine tr_skip (hK8 _ _ (TrC.keep [14, 5, 9, 8, 7, 6, 3] ?_))
      show TrC _ _ _ _ [(14, _), (5, _), (9, _), (8, _), (7, _), (6, _), (3, _)] _ _
      -- region 7: cmp.go:71
      refine tr_region ?_
      refine tr_val (ov_add rfl rfl rfl (w64 (by omega))) rfl rfl rfl ?_
      refine tr_val (ov_move rfl rfl) rfl rfl rfl ?_
      skip
      exact tr_nil (hK5 (i + 1) _ _ (⟨by omega, by omega, by rw [← hx, or_step hi0 (by omega), if_neg (by omega)], H⟩) (by omega) (Sub.cons rfl (Sub.cons rfl (Sub.cons rfl (Sub.cons rfl Sub.nil)))))
  · skip
    refine tr_exit (hK3 _ _ (TrC.keep [9, 8, 7, 6, 3] ?_))
    show TrC _ _ _ _ [(9, _), (8, _), (7, _), (6, _), (3, _)] _ _
    refine tr_seq (fun K12 hK12 => ?_)
    -- region 8: cmp.go:76
    refine tr_region ?_
    refine tr_val (ov_move rfl rfl) rfl rfl rfl ?_
    refine tr_val (ov_assign rfl rfl) rfl rfl rfl ?_
    refine tr_nil (hK12 _ _ (TrC.keep [2, 9, 8, 7, 6, 3] ?_))
    show TrC _ _ _ _ [(2, _), (9, _), (8, _), (7, _), (6, _), (3, _)] _ _
    refine tr_ret (post_ret1 (.inr rfl) rfl rfl ?_)
    rw [← hx, drop_end (by omega)]; exact ⟨rfl, H⟩

/-! (curfew/slots.Thing).order -/
set_option maxRecDepth 20000 in
theorem order_c (s t : Thing) (w : World) : Does Try.prog 59 #[.agg #[.int .u64 s.id, .int .u64 s.gen, .int .i64 s.due], .agg #[.int .u64 t.id, .int .u64 t.gen, .int .i64 t.due]] w (fun v w' => v = .int .i64 (ordV s t) ∧ SH w noBlocks [] w') := by
  refine does_enter2 Try.func59 rfl Try.ntmps59 rfl ?_
  have H := SH.start w noBlocks
  refine tr_seq (fun K1 hK1 => ?_)
  -- region 0: slots.go:22
  refine tr_region ?_
  refine tr_box H rfl rfl rfl rfl rfl rfl ?_
  intro b1 w1 hb1 H
  refine tr_box H rfl rfl rfl rfl rfl rfl ?_
  intro b2 w2 hb2 H
  refine tr_val (ov_assign rfl rfl) rfl rfl rfl ?_
  refine tr_nil (hK1 _ _ (TrC.keep [4, 3, 2] ?_))
  show TrC _ _ _ _ [(4, _), (3, _), (2, _)] _ _
  refine tr_seq (fun K2 hK2 => ?_)
  -- region 1: slots.go:23
  refine tr_held (fun w' => (blk b1 30 [.int .u64 s.id, .int .u64 s.gen, .int .i64 s.due]).holds w' ∧ (blk b2 30 [.int .u64 t.id, .int .u64 t.gen, .int .i64 t.due]).holds w') mixed rfl H ?_
  intro w3 H
  refine th_take 0 rfl (by kernel_rfl) (by kernel_rfl) (by kernel_rfl) (⟨H.get1, H.get0⟩) (fun _ hS => ov_fieldAddr rfl Try.underlying30 rfl (Try.sizeOf2 _) (by decide) rfl) rfl rfl rfl ?_
  refine th_take 1 rfl (by kernel_rfl) (by kernel_rfl) (by kernel_rfl) (⟨H.get1, H.get0⟩) (fun _ hS => ov_load_blk hS.1 rfl (Try.isAgg2 _) rfl rfl rfl) rfl rfl rfl ?_
  refine th_take 2 rfl (by kernel_rfl) (by kernel_rfl) (by kernel_rfl) (⟨H.get1, H.get0⟩) (fun _ hS => ov_fieldAddr rfl Try.underlying30 rfl (Try.sizeOf2 _) (by decide) rfl) rfl rfl rfl ?_
  refine th_take 3 rfl (by kernel_rfl) (by kernel_rfl) (by kernel_rfl) (⟨H.get1, H.get0⟩) (fun _ hS => ov_load_blk hS.2 rfl (Try.isAgg2 _) rfl rfl rfl) rfl rfl rfl ?_
  refine th_take 5 rfl (by kernel_rfl) (by kernel_rfl) (by kernel_rfl) (⟨H.get1, H.get0⟩) (fun _ hS => ov_fieldAddr rfl Try.underlying30 rfl (Try.sizeOf28 _) (by decide) rfl) rfl rfl rfl ?_
  refine th_take 6 rfl (by kernel_rfl) (by kernel_rfl) (by kernel_rfl) (⟨H.get1, H.get0⟩) (fun _ hS => ov_load_blk hS.1 rfl (Try.isAgg28 _) rfl rfl rfl) rfl rfl rfl ?_
  refine th_take 7 rfl (by kernel_rfl) (by kernel_rfl) (by kernel_rfl) (⟨H.get1, H.get0⟩) (fun _ hS => ov_fieldAddr rfl Try.underlying30 rfl (Try.sizeOf28 _) (by decide) rfl) rfl rfl rfl ?_
  refine th_take 8 rfl (by kernel_rfl) (by kernel_rfl) (by kernel_rfl) (⟨H.get1, H.get0⟩) (fun _ hS => ov_load_blk hS.2 rfl (Try.isAgg28 _) rfl rfl rfl) rfl rfl rfl ?_
  refine th_one 4 (by kernel_rfl) ?_
  refine tw_call (Compare_i64 s.due t.due _) rfl rfl rfl rfl Try.call99 rfl rfl rfl ?_
  rintro _ w4 ⟨rfl, HC⟩
  have H := H.call0n HC
  refine ⟨⟨H.get1, H.get0⟩, ?_⟩
  refine th_one 9 (by kernel_rfl) ?_
  refine tw_call (Compare_u64 s.id t.id _) rfl rfl rfl rfl Try.call100 rfl rfl rfl ?_
  rintro _ w5 ⟨rfl, HC⟩
  have H := H.call0n HC
  refine ⟨⟨H.get1, H.get0⟩, ?_⟩
  refine th_one 10 (by kernel_rfl) ?_
  refine tw_op (or_buildSlice (zc := #[]) (cs := [.int .i64 (cmpI s.due t.due), .int .i64 (cmpI s.id t.id)]) rfl Try.underlying183 info3 rfl (fun ρ k => bs2 k rfl rfl) (by decide) (by decide) (fill_I64_2 _ _)) rfl ⟨(H.add (upd_alloc _ _ _)).get2, (H.add (upd_alloc _ _ _)).get1⟩ rfl rfl rfl ?_
  have H := H.add (upd_alloc _ 3 [.int .i64 (cmpI s.due t.due), .int .i64 (cmpI s.id t.id)])
  refine th_one 11 (by kernel_rfl) ?_
  refine tw_call (Or_c _ _ [cmpI s.due t.due, cmpI s.id t.id] _ (rd_blk [cmpI s.due t.due, cmpI s.id t.id] H.get0 rfl lenI64) (by simp)) rfl rfl rfl rfl Try.call98 rfl rfl rfl ?_
  rintro _ w6 ⟨rfl, HC⟩
  have H := H.call0n HC
  have H := H.drop0
  refine ⟨⟨H.get1, H.get0⟩, ?_⟩
  refine th_take 12 rfl (by kernel_rfl) (by kernel_rfl) (by kernel_rfl) (⟨H.get1, H.get0⟩) (fun _ hS => ov_assign rfl rfl) rfl rfl rfl ?_
  refine th_done (by kernel_rfl) ?_
  refine hK2 _ _ (TrC.keep [4] ?_)
  show TrC _ _ _ _ [(4, _)] _ _
  refine tr_ret (post_ret1 (.inr rfl) rfl rfl ?_)
  exact ⟨rfl, H.drop0.drop0⟩

/-! slices.insertionSortCmpFunc[curfew/slots.Thing] -/
set_option maxRecDepth 20000 in
theorem insertion_c (B : Option Addr) (c n : Nat) (T : List TT) (a b : Int) (w : World) (hV : (vec B c 30 3 encTT T).holds w) (hn : T.length = n) (hN : n ≤ 4294967296) (ha : 0 ≤ a) (hab : a ≤ b) (hb : b ≤ n) (hf : Fresh T a b) : Does Try.prog 111 #[.slice B n c, .int .i64 a, .int .i64 b, .func (.func 59) #[] #[]] w (fun v w' => ∃ T', Mv a b T T' ∧ Srt T' a b ∧ SH w (vec B c 30 3 encTT T).foot [vec B c 30 3 encTT T'] w') := by
  refine does_enter4 Try.func111 rfl Try.ntmps111 rfl ?_
  have H := SH.own1 hV
  refine tr_seq (fun K1 hK1 => ?_)
  -- region 0: zsortanyfunc.go:11
  refine tr_region ?_
  refine tr_val (ov_move rfl rfl) rfl rfl rfl ?_
  refine tr_val (ov_add rfl rfl rfl (w64 (by omega))) rfl rfl rfl ?_
  refine tr_val (ov_assign rfl rfl) rfl rfl rfl ?_
  refine tr_nil (hK1 _ _ (TrC.keep [8, 0, 1, 2, 3] ?_))
  show TrC _ _ _ _ [(8, _), (0, _), (1, _), (2, _), (3, _)] _ _
  refine tr_block ?_
  refine tr_loop_ (X := Int × List TT) [0, 1, 2, 3] (fun ⟨i, T1⟩ => [(8, .int .i64 i)]) (fun ⟨i, T1⟩ w' => a + 1 ≤ i ∧ (i ≤ b ∨ i = a + 1) ∧ Mv a i T T1 ∧ Srt T1 a i ∧ SH w (vec B c 30 3 encTT T).foot [vec B c 30 3 encTT T1] w') (fun ⟨i, T1⟩ => (b - i).toNat) (⟨a + 1, T⟩) (Sub.cons rfl (Sub.cons rfl (Sub.cons rfl (Sub.cons rfl (Sub.cons rfl Sub.nil))))) (⟨by omega, .inr rfl, Mv.refl _ _ _, fun i j h0 h1 h2 => by omega, H⟩) ?_
  rintro ⟨i, T1⟩ w1 ⟨hi0, hi1, hm1, hs1, H⟩ K2 hK2
  show TrC _ _ _ _ [(8, _), (0, _), (1, _), (2, _), (3, _)] _ _
  refine tr_seq (fun K3 hK3 => ?_)
  refine tr_seq (fun K4 hK4 => ?_)
  -- region 1: zsortanyfunc.go:11
  refine tr_region ?_
  refine tr_val (ov_move rfl rfl) rfl rfl rfl ?_
  refine tr_val (ov_move rfl rfl) rfl rfl rfl ?_
  refine tr_val (ov_lss rfl rfl rfl) rfl rfl rfl ?_
  refine tr_nil (hK4 _ _ (TrC.keep [14, 8, 0, 1, 2, 3] ?_))
  show TrC _ _ _ _ [(14, _), (8, _), (0, _), (1, _), (2, _), (3, _)] _ _
  refine tr_cond rfl (fun c14 => ?_) (fun c14 => ?_)
  · skip
    refine tr_skip (hK3 _ _ (TrC.keep [14, 8, 0, 1, 2, 3] ?_))
    show TrC _ _ _ _ [(14, _), (8, _), (0, _), (1, _), (2, _), (3, _)] _ _
    refine tr_seq (fun K5 hK5 => ?_)
    refine tr_block ?_
    refine tr_seq (fun K6 hK6 => ?_)
    -- region 3: zsortanyfunc.go:12
    have hl1 := hm1.len
    have hm1' := hm1.mono (a := a) (b := i + 1) ha (by omega) (by omega)
    have hh := hole_start (i := i) (hs1) (fun p hp hp1 => by obtain ⟨y, hy, hy1, e⟩ := hm1.ins p hp hp1; rw [e, hf y (by omega) (by omega), hm1.out i (by omega) (.inr (by omega)), hf i (by omega) (by omega)]; exact hy1)
    refine tr_region ?_
    refine tr_val (ov_move rfl rfl) rfl rfl rfl ?_
    refine tr_val (ov_assign rfl rfl) rfl rfl rfl ?_
    refine tr_nil (hK6 _ _ (TrC.keep [9, 14, 8, 0, 1, 2, 3] ?_))
    show TrC _ _ _ _ [(9, _), (14, _), (8, _), (0, _), (1, _), (2, _), (3, _)] _ _
    refine tr_block ?_
    refine tr_loop_ (X := Int × List TT) [14, 8, 0, 1, 2, 3] (fun ⟨j, T2⟩ => [(9, .int .i64 j)]) (fun ⟨j, T2⟩ w' => a ≤ j ∧ j ≤ i ∧ Mv a (i + 1) T T2 ∧ Hole T2 a j i ∧ SH w (vec B c 30 3 encTT T).foot [vec B c 30 3 encTT T2] w') (fun ⟨j, T2⟩ => (j - a).toNat) (⟨i, T1⟩) (Sub.cons rfl (Sub.cons rfl (Sub.cons rfl (Sub.cons rfl (Sub.cons rfl (Sub.cons rfl (Sub.cons rfl Sub.nil))))))) (⟨by omega, by omega, hm1', hh, H⟩) ?_
    rintro ⟨j, T2⟩ w2 ⟨hj0, hj1, hm2, hh2, H⟩ K7 hK7
    have hl2 := hm2.len
    show TrC _ _ _ _ [(9, _), (14, _), (8, _), (0, _), (1, _), (2, _), (3, _)] _ _
    refine tr_seq (fun K8 hK8 => ?_)
    refine tr_seq (fun K9 hK9 => ?_)
    -- region 4: zsortanyfunc.go:12
    refine tr_quiet mixed (by kernel_rfl) H ?_
    refine tq_val (fun _ H => ov_move rfl rfl) rfl rfl rfl ?_
    refine tq_val (fun _ H => ov_move rfl rfl) rfl rfl rfl ?_
    refine tq_val (fun _ H => ov_gtr rfl rfl rfl) rfl rfl rfl ?_
    refine tq_val (fun _ H => ov_move rfl rfl) rfl rfl rfl ?_
    refine tq_split (t := 21) rfl (fun s21 => ?_) (fun s21 => ?_)
    · skip
      refine tq_val (fun _ H => ov_move rfl rfl) rfl rfl rfl ?_
      refine tq_val (fun _ H => ov_move rfl rfl) rfl rfl rfl ?_
      refine tq_val (fun _ H => ov_move rfl rfl) rfl rfl rfl ?_
      refine tq_val (fun _ H => ov_indexAddrN (vec_rd H.get0 lenTT (by decide)) (by omega) rfl Try.underlying32 (Try.sizeOf30 _) rfl rfl (by omega) (by omega)) rfl rfl rfl ?_
      refine tq_val (fun _ H => ld_TT (vec_rd H.get0 lenTT (by decide)) rfl (Try.isAgg30 _) (Try.sizeOf30 _) rfl (by omega) (by omega)) rfl rfl rfl ?_
      refine tq_val (fun _ H => ov_move rfl rfl) rfl rfl rfl ?_
      refine tq_val (fun _ H => ov_move rfl rfl) rfl rfl rfl ?_
      refine tq_val (fun _ H => ov_sub rfl rfl rfl (w64 (by omega))) rfl rfl rfl ?_
      refine tq_val (fun _ H => ov_indexAddrN (vec_rd H.get0 lenTT (by decide)) (by omega) rfl Try.underlying32 (Try.sizeOf30 _) rfl rfl (by omega) (by omega)) rfl rfl rfl ?_
      refine tq_val (fun _ H => ld_TT (vec_rd H.get0 lenTT (by decide)) rfl (Try.isAgg30 _) (Try.sizeOf30 _) rfl (by omega) (by omega)) rfl rfl rfl ?_
      refine tq_call (fun _ H => (order_c (gt T2 j).1 (gt T2 (j - 1)).1 _).mono (fun _ _ hq => ⟨hq.1, H.call0n hq.2⟩)) rfl rfl rfl Try.call59 rfl rfl rfl ?_
      refine tq_val (fun _ H => ov_lss rfl rfl rfl) rfl rfl rfl ?_
      refine tq_val (fun _ H => ov_pick (vb := undef) rfl rfl rfl rfl) rfl rfl rfl ?_
      refine tq_nil ?_
      intro w3 H
      refine hK9 _ _ (TrC.keep [34, 9, 14, 8, 0, 1, 2, 3] ?_)
      show TrC _ _ _ _ [(34, _), (9, _), (14, _), (8, _), (0, _), (1, _), (2, _), (3, _)] _ _
      refine tr_cond rfl (fun c34 => ?_) (fun c34 => ?_)
      · skip
        refine tr_skip (hK8 _ _ (TrC.keep [34, 9, 14, 8, 0, 1, 2, 3] ?_))
        show TrC _ _ _ _ [(34, _), (9, _), (14, _), (8, _), (0, _), (1, _), (2, _), (3, _)] _ _
        refine tr_seq (fun K10 hK10 => ?_)
        refine tr_block ?_
        -- region 6: zsortanyfunc.go:13
        have hsome := rd_some (vec_rd H.get0 lenTT (by decide)) (i := j) (by omega) (by omega)
        refine tr_held (fun _ => True) mixed rfl H ?_
        intro w4 H
        refine th_take 0 rfl (by kernel_rfl) (by kernel_rfl) (by kernel_rfl) (trivial) (fun _ hS => ov_move rfl rfl) rfl rfl rfl ?_
        refine th_take 1 rfl (by kernel_rfl) (by kernel_rfl) (by kernel_rfl) (trivial) (fun _ hS => ov_move rfl rfl) rfl rfl rfl ?_
        refine th_take 2 rfl (by kernel_rfl) (by kernel_rfl) (by kernel_rfl) (trivial) (fun _ hS => ov_move rfl rfl) rfl rfl rfl ?_
        refine th_take 3 rfl (by kernel_rfl) (by kernel_rfl) (by kernel_rfl) (trivial) (fun _ hS => ov_move rfl rfl) rfl rfl rfl ?_
        refine th_take 4 rfl (by kernel_rfl) (by kernel_rfl) (by kernel_rfl) (trivial) (fun _ hS => ov_sub rfl rfl rfl (w64 (by omega))) rfl rfl rfl ?_
        refine th_take 5 rfl (by kernel_rfl) (by kernel_rfl) (by kernel_rfl) (trivial) (fun _ hS => ov_move rfl rfl) rfl rfl rfl ?_
        refine th_take 6 rfl (by kernel_rfl) (by kernel_rfl) (by kernel_rfl) (trivial) (fun _ hS => ov_move rfl rfl) rfl rfl rfl ?_
        refine th_take 7 rfl (by kernel_rfl) (by kernel_rfl) (by kernel_rfl) (trivial) (fun _ hS => ov_sub rfl rfl rfl (w64 (by omega))) rfl rfl rfl ?_
        refine th_take 8 rfl (by kernel_rfl) (by kernel_rfl) (by kernel_rfl) (trivial) (fun _ hS => ov_indexAddr rfl Try.underlying32 (Try.sizeOf30 _) rfl rfl (by omega) (by omega) hsome) rfl rfl rfl ?_
        refine th_take 10 rfl (by kernel_rfl) (by kernel_rfl) (by kernel_rfl) (trivial) (fun _ hS => ov_move rfl rfl) rfl rfl rfl ?_
        refine th_take 11 rfl (by kernel_rfl) (by kernel_rfl) (by kernel_rfl) (trivial) (fun _ hS => ov_move rfl rfl) rfl rfl rfl ?_
        refine th_take 12 rfl (by kernel_rfl) (by kernel_rfl) (by kernel_rfl) (trivial) (fun _ hS => ov_indexAddr rfl Try.underlying32 (Try.sizeOf30 _) rfl rfl (by omega) (by omega) hsome) rfl rfl rfl ?_
        refine th_two 9 13 (by kernel_rfl) ?_ ?_
        · skip
          refine tw_val (ld_TT (vec_rd H.get0 lenTT (by decide)) rfl (Try.isAgg30 _) (Try.sizeOf30 _) rfl (by omega) (by omega)) rfl (trivial) rfl rfl rfl ?_
          refine th_one 13 (by kernel_rfl) ?_
          refine tw_val (ld_TT (vec_rd H.get0 lenTT (by decide)) rfl (Try.isAgg30 _) (Try.sizeOf30 _) rfl (by omega) (by omega)) rfl (trivial) rfl rfl rfl ?_
          refine th_take 14 rfl (by kernel_rfl) (by kernel_rfl) (by kernel_rfl) (trivial) (fun _ hS => ov_indexAddr rfl Try.underlying32 (Try.sizeOf30 _) rfl rfl (by omega) (by omega) hsome) rfl rfl rfl ?_
          refine th_one 15 (by kernel_rfl) ?_
          refine tw_store_vec (i := j) (k := 0) (gt T2 (j - 1)) [.int .u64 (gt T2 (j - 1)).1.id, .int .u64 (gt T2 (j - 1)).1.gen, .int .i64 (gt T2 (j - 1)).1.due] H.get0 lenTT rfl rfl rfl rfl rfl (by omega) (by omega) (Try.sizeOf30 _) (Nat.le_refl _) (List.cons_ne_nil _ _) rfl rfl rfl rfl rfl ?_
          intro w9 U; have H := H.upd0 U; clear U
          refine ⟨trivial, ?_⟩
          refine th_take 16 rfl (by kernel_rfl) (by kernel_rfl) (by kernel_rfl) (trivial) (fun _ hS => ov_indexAddr rfl Try.underlying32 (Try.sizeOf30 _) rfl rfl (by omega) (by omega) hsome) rfl rfl rfl ?_
          refine th_one 17 (by kernel_rfl) ?_
          refine tw_store_vec (i := j - 1) (k := 0) (gt T2 (j)) [.int .u64 (gt T2 (j)).1.id, .int .u64 (gt T2 (j)).1.gen, .int .i64 (gt T2 (j)).1.due] H.get0 lenTT rfl rfl rfl rfl rfl (by omega) (by rw [List.length_set]; omega) (Try.sizeOf30 _) (Nat.le_refl _) (List.cons_ne_nil _ _) rfl rfl rfl rfl rfl ?_
          intro w9 U; have H := H.upd0 U; clear U
          refine ⟨trivial, ?_⟩
          refine th_done (by kernel_rfl) ?_
          refine hK10 _ _ (TrC.keep [34, 9, 14, 8, 0, 1, 2, 3] ?_)
          show TrC _ _ _ _ [(34, _), (9, _), (14, _), (8, _), (0, _), (1, _), (2, _), (3, _)] _ _
          -- region 5: zsortanyfunc.go:12
          refine tr_region ?_
          refine tr_val (ov_move rfl rfl) rfl rfl rfl ?_
          refine tr_val (ov_sub rfl rfl rfl (w64 (by omega))) rfl rfl rfl ?_
          refine tr_val (ov_assign rfl rfl) rfl rfl rfl ?_
          skip
          exact tr_nil (hK7 (⟨j - 1, swT T2 j (j - 1)⟩) _ _ (⟨by omega, by omega, hm2.trans (swT_mv ha (by omega) (by omega) (by omega) (by omega) (by omega)), hole_down hh2 ha (by omega) (by omega) (by omega) (ord_lt.mp c34), H⟩) (by (dsimp only; omega)) (Sub.cons rfl (Sub.cons rfl (Sub.cons rfl (Sub.cons rfl (Sub.cons rfl (Sub.cons rfl (Sub.cons rfl Sub.nil))))))))
        · skip
          refine tw_val (ld_TT (vec_rd H.get0 lenTT (by decide)) rfl (Try.isAgg30 _) (Try.sizeOf30 _) rfl (by omega) (by omega)) rfl (trivial) rfl rfl rfl ?_
          refine th_one 9 (by kernel_rfl) ?_
          refine tw_val (ld_TT (vec_rd H.get0 lenTT (by decide)) rfl (Try.isAgg30 _) (Try.sizeOf30 _) rfl (by omega) (by omega)) rfl (trivial) rfl rfl rfl ?_
          refine th_take 14 rfl (by kernel_rfl) (by kernel_rfl) (by kernel_rfl) (trivial) (fun _ hS => ov_indexAddr rfl Try.underlying32 (Try.sizeOf30 _) rfl rfl (by omega) (by omega) hsome) rfl rfl rfl ?_
          refine th_one 15 (by kernel_rfl) ?_
          refine tw_store_vec (i := j) (k := 0) (gt T2 (j - 1)) [.int .u64 (gt T2 (j - 1)).1.id, .int .u64 (gt T2 (j - 1)).1.gen, .int .i64 (gt T2 (j - 1)).1.due] H.get0 lenTT rfl rfl rfl rfl rfl (by omega) (by omega) (Try.sizeOf30 _) (Nat.le_refl _) (List.cons_ne_nil _ _) rfl rfl rfl rfl rfl ?_
          intro w9 U; have H := H.upd0 U; clear U
          refine ⟨trivial, ?_⟩
          refine th_take 16 rfl (by kernel_rfl) (by kernel_rfl) (by kernel_rfl) (trivial) (fun _ hS => ov_indexAddr rfl Try.underlying32 (Try.sizeOf30 _) rfl rfl (by omega) (by omega) hsome) rfl rfl rfl ?_
          refine th_one 17 (by kernel_rfl) ?_
          refine tw_store_vec (i := j - 1) (k := 0) (gt T2 (j)) [.int .u64 (gt T2 (j)).1.id, .int .u64 (gt T2 (j)).1.gen, .int .i64 (gt T2 (j)).1.due] H.get0 lenTT rfl rfl rfl rfl rfl (by omega) (by rw [List.length_set]; omega) (Try.sizeOf30 _) (Nat.le_refl _) (List.cons_ne_nil _ _) rfl rfl rfl rfl rfl ?_
          intro w9 U; have H := H.upd0 U; clear U
          refine ⟨trivial, ?_⟩
          refine th_done (by kernel_rfl) ?_
          refine hK10 _ _ (TrC.keep [34, 9, 14, 8, 0, 1, 2, 3] ?_)
          show TrC _ _ _ _ [(34, _), (9, _), (14, _), (8, _), (0, _), (1, _), (2, _), (3, _)] _ _
          -- region 5: zsortanyfunc.go:12
          refine tr_region ?_
          refine tr_val (ov_move rfl rfl) rfl rfl rfl ?_
          refine tr_val (ov_sub rfl rfl rfl (w64 (by omega))) rfl rfl rfl ?_
          refine tr_val (ov_assign rfl rfl) rfl rfl rfl ?_
          skip
          exact tr_nil (hK7 (⟨j - 1, swT T2 j (j - 1)⟩) _ _ (⟨by omega, by omega, hm2.trans (swT_mv ha (by omega) (by omega) (by omega) (by omega) (by omega)), hole_down hh2 ha (by omega) (by omega) (by omega) (ord_lt.mp c34), H⟩) (by (dsimp only; omega)) (Sub.cons rfl (Sub.cons rfl (Sub.cons rfl (Sub.cons rfl (Sub.cons rfl (Sub.cons rfl (Sub.cons rfl Sub.nil))))))))
      · skip
        refine tr_exit (hK5 _ _ (TrC.keep [34, 9, 14, 8, 0, 1, 2, 3] ?_))
        show TrC _ _ _ _ [(34, _), (9, _), (14, _), (8, _), (0, _), (1, _), (2, _), (3, _)] _ _
        -- region 2: zsortanyfunc.go:11
        refine tr_region ?_
        refine tr_val (ov_move rfl rfl) rfl rfl rfl ?_
        refine tr_val (ov_add rfl rfl rfl (w64 (by omega))) rfl rfl rfl ?_
        refine tr_val (ov_assign rfl rfl) rfl rfl rfl ?_
        have hl2 := hm2.len
        have hend := hole_end hh2 hj0 (.inr (fun h => by have := ord_lt.mpr h; omega))
        exact tr_nil (hK2 (⟨i + 1, T2⟩) _ _ (⟨by omega, .inl (by omega), hm2, hend, H⟩) (by (dsimp only; omega)) (Sub.cons rfl (Sub.cons rfl (Sub.cons rfl (Sub.cons rfl (Sub.cons rfl Sub.nil))))))
    · skip
      refine tq_pass rfl rfl rfl ?_
      refine tq_pass rfl rfl rfl ?_
      refine tq_pass rfl rfl rfl ?_
      refine tq_pass rfl rfl rfl ?_
      refine tq_pass rfl rfl rfl ?_
      refine tq_pass rfl rfl rfl ?_
      refine tq_pass rfl rfl rfl ?_
      refine tq_pass rfl rfl rfl ?_
      refine tq_pass rfl rfl rfl ?_
      refine tq_pass rfl rfl rfl ?_
      refine tq_pass rfl rfl rfl ?_
      refine tq_pass rfl rfl rfl ?_
      refine tq_val (fun _ H => ov_pick_f (va := undef) rfl rfl rfl rfl) rfl rfl rfl ?_
      refine tq_nil ?_
      intro w5 H
      refine hK9 _ _ (TrC.keep [34, 9, 14, 8, 0, 1, 2, 3] ?_)
      show TrC _ _ _ _ [(34, _), (9, _), (14, _), (8, _), (0, _), (1, _), (2, _), (3, _)] _ _
      refine tr_cond_f rfl rfl ?_
      refine tr_exit (hK5 _ _ (TrC.keep [34, 9, 14, 8, 0, 1, 2, 3] ?_))
      show TrC _ _ _ _ [(34, _), (9, _), (14, _), (8, _), (0, _), (1, _), (2, _), (3, _)] _ _
      -- region 2: zsortanyfunc.go:11
      refine tr_region ?_
      refine tr_val (ov_move rfl rfl) rfl rfl rfl ?_
      refine tr_val (ov_add rfl rfl rfl (w64 (by omega))) rfl rfl rfl ?_
      refine tr_val (ov_assign rfl rfl) rfl rfl rfl ?_
      have hend := hole_end hh2 hj0 (.inl (by omega))
      exact tr_nil (hK2 (⟨i + 1, T2⟩) _ _ (⟨by omega, .inl (by omega), hm2, hend, H⟩) (by (dsimp only; omega)) (Sub.cons rfl (Sub.cons rfl (Sub.cons rfl (Sub.cons rfl (Sub.cons rfl Sub.nil))))))
  · skip
    refine tr_exit (post_ret0 (.inl rfl) rfl  ?_)
    refine ⟨T1, ?_, ?_, H⟩
    · by_cases e : i ≤ b
      · exact hm1.mono ha (by omega) e
      · have e2 : i = a + 1 := by omega
        have e3 : a = b := by omega
        exact ⟨hm1.len, hm1.perm, fun x h0 hx => by
          by_cases hx2 : x = a
          · subst hx2
            obtain ⟨y, hy, hy1, e4⟩ := hm1.ins x (by omega) (by omega)
            rw [e4]; congr 1; omega
          · exact hm1.out x h0 (by omega), fun x h0 h1 => by omega⟩
    · exact hs1.mono (by omega) (by omega)

/-! slices.swapRangeCmpFunc[curfew/slots.Thing] -/
set_option maxRecDepth 20000 in
theorem swapRange_c (B : Option Addr) (c n : Nat) (T : List TT) (a b k : Int) (w : World) (hV : (vec B c 30 3 encTT T).holds w) (hn : T.length = n) (hN : n ≤ 4294967296) (ha : 0 ≤ a) (hb : 0 ≤ b) (hk : 0 ≤ k) (hd : a + k ≤ b ∨ b + k ≤ a) (h1 : a + k ≤ n) (h2 : b + k ≤ n) : Does Try.prog 118 #[.slice B n c, .int .i64 a, .int .i64 b, .int .i64 k, .func (.func 59) #[] #[]] w (fun v w' => ∃ T', swR T T' a b k ∧ (∀ lo hi, 0 ≤ lo → lo ≤ a → lo ≤ b → a + k ≤ hi → b + k ≤ hi → hi ≤ T.length → Mv lo hi T T') ∧ SH w (vec B c 30 3 encTT T).foot [vec B c 30 3 encTT T'] w') := by
  refine does_enter5 Try.func118 rfl Try.ntmps118 rfl ?_
  have H := SH.own1 hV
  refine tr_seq (fun K1 hK1 => ?_)
  -- region 0: zsortanyfunc.go:330
  refine tr_region ?_
  refine tr_val (ov_assign rfl rfl) rfl rfl rfl ?_
  refine tr_nil (hK1 _ _ (TrC.keep [10, 0, 1, 2, 3] ?_))
  show TrC _ _ _ _ [(10, _), (0, _), (1, _), (2, _), (3, _)] _ _
  refine tr_block ?_
  refine tr_loop_ (X := Int × List TT) [0, 1, 2, 3] (fun ⟨i, T1⟩ => [(10, .int .i64 i)]) (fun ⟨i, T1⟩ w' => 0 ≤ i ∧ i ≤ k ∧ T1.length = n ∧ swR T T1 a b i ∧ (∀ lo hi, 0 ≤ lo → lo ≤ a → lo ≤ b → a + k ≤ hi → b + k ≤ hi → hi ≤ T.length → Mv lo hi T T1) ∧ SH w (vec B c 30 3 encTT T).foot [vec B c 30 3 encTT T1] w') (fun ⟨i, T1⟩ => (k - i).toNat) (⟨0, T⟩) (Sub.cons rfl (Sub.cons rfl (Sub.cons rfl (Sub.cons rfl (Sub.cons rfl Sub.nil))))) (⟨by omega, by omega, hn, swR_start, fun lo hi _ _ _ _ _ _ => Mv.refl _ _ _, H⟩) ?_
  rintro ⟨i, T1⟩ w1 ⟨hi0, hi1, hl1, hsw, hmv, H⟩ K2 hK2
  show TrC _ _ _ _ [(10, _), (0, _), (1, _), (2, _), (3, _)] _ _
  refine tr_seq (fun K3 hK3 => ?_)
  refine tr_seq (fun K4 hK4 => ?_)
  -- region 1: zsortanyfunc.go:330
  refine tr_region ?_
  refine tr_val (ov_move rfl rfl) rfl rfl rfl ?_
  refine tr_val (ov_move rfl rfl) rfl rfl rfl ?_
  refine tr_val (ov_lss rfl rfl rfl) rfl rfl rfl ?_
  refine tr_nil (hK4 _ _ (TrC.keep [13, 10, 0, 1, 2, 3] ?_))
  show TrC _ _ _ _ [(13, _), (10, _), (0, _), (1, _), (2, _), (3, _)] _ _
  refine tr_cond rfl (fun c13 => ?_) (fun c13 => ?_)
  · skip
    refine tr_skip (hK3 _ _ (TrC.keep [13, 10, 0, 1, 2, 3] ?_))
    show TrC _ _ _ _ [(13, _), (10, _), (0, _), (1, _), (2, _), (3, _)] _ _
    refine tr_seq (fun K5 hK5 => ?_)
    refine tr_block ?_
    -- region 3: zsortanyfunc.go:331
    have hsome := rd_some (vec_rd H.get0 lenTT (by decide)) (i := a + i) (by omega) (by omega)
    refine tr_held (fun _ => True) mixed rfl H ?_
    intro w2 H
    refine th_take 0 rfl (by kernel_rfl) (by kernel_rfl) (by kernel_rfl) (trivial) (fun _ hS => ov_move rfl rfl) rfl rfl rfl ?_
    refine th_take 1 rfl (by kernel_rfl) (by kernel_rfl) (by kernel_rfl) (trivial) (fun _ hS => ov_move rfl rfl) rfl rfl rfl ?_
    refine th_take 2 rfl (by kernel_rfl) (by kernel_rfl) (by kernel_rfl) (trivial) (fun _ hS => ov_move rfl rfl) rfl rfl rfl ?_
    refine th_take 3 rfl (by kernel_rfl) (by kernel_rfl) (by kernel_rfl) (trivial) (fun _ hS => ov_add rfl rfl rfl (w64 (by omega))) rfl rfl rfl ?_
    refine th_take 4 rfl (by kernel_rfl) (by kernel_rfl) (by kernel_rfl) (trivial) (fun _ hS => ov_move rfl rfl) rfl rfl rfl ?_
    refine th_take 5 rfl (by kernel_rfl) (by kernel_rfl) (by kernel_rfl) (trivial) (fun _ hS => ov_move rfl rfl) rfl rfl rfl ?_
    refine th_take 6 rfl (by kernel_rfl) (by kernel_rfl) (by kernel_rfl) (trivial) (fun _ hS => ov_move rfl rfl) rfl rfl rfl ?_
    refine th_take 7 rfl (by kernel_rfl) (by kernel_rfl) (by kernel_rfl) (trivial) (fun _ hS => ov_add rfl rfl rfl (w64 (by omega))) rfl rfl rfl ?_
    refine th_take 8 rfl (by kernel_rfl) (by kernel_rfl) (by kernel_rfl) (trivial) (fun _ hS => ov_move rfl rfl) rfl rfl rfl ?_
    refine th_take 9 rfl (by kernel_rfl) (by kernel_rfl) (by kernel_rfl) (trivial) (fun _ hS => ov_move rfl rfl) rfl rfl rfl ?_
    refine th_take 10 rfl (by kernel_rfl) (by kernel_rfl) (by kernel_rfl) (trivial) (fun _ hS => ov_move rfl rfl) rfl rfl rfl ?_
    refine th_take 11 rfl (by kernel_rfl) (by kernel_rfl) (by kernel_rfl) (trivial) (fun _ hS => ov_add rfl rfl rfl (w64 (by omega))) rfl rfl rfl ?_
    refine th_take 12 rfl (by kernel_rfl) (by kernel_rfl) (by kernel_rfl) (trivial) (fun _ hS => ov_indexAddr rfl Try.underlying32 (Try.sizeOf30 _) rfl rfl (by omega) (by omega) hsome) rfl rfl rfl ?_
    refine th_take 14 rfl (by kernel_rfl) (by kernel_rfl) (by kernel_rfl) (trivial) (fun _ hS => ov_move rfl rfl) rfl rfl rfl ?_
    refine th_take 15 rfl (by kernel_rfl) (by kernel_rfl) (by kernel_rfl) (trivial) (fun _ hS => ov_move rfl rfl) rfl rfl rfl ?_
    refine th_take 16 rfl (by kernel_rfl) (by kernel_rfl) (by kernel_rfl) (trivial) (fun _ hS => ov_move rfl rfl) rfl rfl rfl ?_
    refine th_take 17 rfl (by kernel_rfl) (by kernel_rfl) (by kernel_rfl) (trivial) (fun _ hS => ov_add rfl rfl rfl (w64 (by omega))) rfl rfl rfl ?_
    refine th_take 18 rfl (by kernel_rfl) (by kernel_rfl) (by kernel_rfl) (trivial) (fun _ hS => ov_indexAddr rfl Try.underlying32 (Try.sizeOf30 _) rfl rfl (by omega) (by omega) hsome) rfl rfl rfl ?_
    refine th_two 13 19 (by kernel_rfl) ?_ ?_
    · skip
      refine tw_val (ld_TT (vec_rd H.get0 lenTT (by decide)) rfl (Try.isAgg30 _) (Try.sizeOf30 _) rfl (by omega) (by omega)) rfl (trivial) rfl rfl rfl ?_
      refine th_one 19 (by kernel_rfl) ?_
      refine tw_val (ld_TT (vec_rd H.get0 lenTT (by decide)) rfl (Try.isAgg30 _) (Try.sizeOf30 _) rfl (by omega) (by omega)) rfl (trivial) rfl rfl rfl ?_
      refine th_take 20 rfl (by kernel_rfl) (by kernel_rfl) (by kernel_rfl) (trivial) (fun _ hS => ov_indexAddr rfl Try.underlying32 (Try.sizeOf30 _) rfl rfl (by omega) (by omega) hsome) rfl rfl rfl ?_
      refine th_one 21 (by kernel_rfl) ?_
      refine tw_store_vec (i := a + i) (k := 0) (gt T1 (b + i)) [.int .u64 (gt T1 (b + i)).1.id, .int .u64 (gt T1 (b + i)).1.gen, .int .i64 (gt T1 (b + i)).1.due] H.get0 lenTT rfl rfl rfl rfl rfl (by omega) (by omega) (Try.sizeOf30 _) (Nat.le_refl _) (List.cons_ne_nil _ _) rfl rfl rfl rfl rfl ?_
      intro w9 U; have H := H.upd0 U; clear U
      refine ⟨trivial, ?_⟩
      refine th_take 22 rfl (by kernel_rfl) (by kernel_rfl) (by kernel_rfl) (trivial) (fun _ hS => ov_indexAddr rfl Try.underlying32 (Try.sizeOf30 _) rfl rfl (by omega) (by omega) hsome) rfl rfl rfl ?_
      refine th_one 23 (by kernel_rfl) ?_
      refine tw_store_vec (i := b + i) (k := 0) (gt T1 (a + i)) [.int .u64 (gt T1 (a + i)).1.id, .int .u64 (gt T1 (a + i)).1.gen, .int .i64 (gt T1 (a + i)).1.due] H.get0 lenTT rfl rfl rfl rfl rfl (by omega) (by rw [List.length_set]; omega) (Try.sizeOf30 _) (Nat.le_refl _) (List.cons_ne_nil _ _) rfl rfl rfl rfl rfl ?_
      intro w9 U; have H := H.upd0 U; clear U
      refine ⟨trivial, ?_⟩
      refine th_done (by kernel_rfl) ?_
      refine hK5 _ _ (TrC.keep [13, 10, 0, 1, 2, 3] ?_)
      show TrC _ _ _ _ [(13, _), (10, _), (0, _), (1, _), (2, _), (3, _)] _ _
      -- region 2: zsortanyfunc.go:330
      refine tr_region ?_
      refine tr_val (ov_move rfl rfl) rfl rfl rfl ?_
      refine tr_val (ov_add rfl rfl rfl (w64 (by omega))) rfl rfl rfl ?_
      refine tr_val (ov_assign rfl rfl) rfl rfl rfl ?_
      skip
      exact tr_nil (hK2 (⟨i + 1, swT T1 (a + i) (b + i)⟩) _ _ (⟨by omega, by omega, by rw [swT_len]; exact hl1, swR_step hsw (by omega) ha hb hi0 (by omega) (by omega) (by omega), fun lo hi q0 q1 q2 q3 q4 q5 => (hmv lo hi q0 q1 q2 q3 q4 q5).trans (swT_mv q0 (by omega) (by omega) (by omega) (by omega) (by omega)), H⟩) (by (dsimp only; omega)) (Sub.cons rfl (Sub.cons rfl (Sub.cons rfl (Sub.cons rfl (Sub.cons rfl Sub.nil))))))
    · skip
      refine tw_val (ld_TT (vec_rd H.get0 lenTT (by decide)) rfl (Try.isAgg30 _) (Try.sizeOf30 _) rfl (by omega) (by omega)) rfl (trivial) rfl rfl rfl ?_
      refine th_one 13 (by kernel_rfl) ?_
      refine tw_val (ld_TT (vec_rd H.get0 lenTT (by decide)) rfl (Try.isAgg30 _) (Try.sizeOf30 _) rfl (by omega) (by omega)) rfl (trivial) rfl rfl rfl ?_
      refine th_take 20 rfl (by kernel_rfl) (by kernel_rfl) (by kernel_rfl) (trivial) (fun _ hS => ov_indexAddr rfl Try.underlying32 (Try.sizeOf30 _) rfl rfl (by omega) (by omega) hsome) rfl rfl rfl ?_
      refine th_one 21 (by kernel_rfl) ?_
      refine tw_store_vec (i := a + i) (k := 0) (gt T1 (b + i)) [.int .u64 (gt T1 (b + i)).1.id, .int .u64 (gt T1 (b + i)).1.gen, .int .i64 (gt T1 (b + i)).1.due] H.get0 lenTT rfl rfl rfl rfl rfl (by omega) (by omega) (Try.sizeOf30 _) (Nat.le_refl _) (List.cons_ne_nil _ _) rfl rfl rfl rfl rfl ?_
      intro w9 U; have H := H.upd0 U; clear U
      refine ⟨trivial, ?_⟩
      refine th_take 22 rfl (by kernel_rfl) (by kernel_rfl) (by kernel_rfl) (trivial) (fun _ hS => ov_indexAddr rfl Try.underlying32 (Try.sizeOf30 _) rfl rfl (by omega) (by omega) hsome) rfl rfl rfl ?_
      refine th_one 23 (by kernel_rfl) ?_
      refine tw_store_vec (i := b + i) (k := 0) (gt T1 (a + i)) [.int .u64 (gt T1 (a + i)).1.id, .int .u64 (gt T1 (a + i)).1.gen, .int .i64 (gt T1 (a + i)).1.due] H.get0 lenTT rfl rfl rfl rfl rfl (by omega) (by rw [List.length_set]; omega) (Try.sizeOf30 _) (Nat.le_refl _) (List.cons_ne_nil _ _) rfl rfl rfl rfl rfl ?_
      intro w9 U; have H := H.upd0 U; clear U
      refine ⟨trivial, ?_⟩
      refine th_done (by kernel_rfl) ?_
      refine hK5 _ _ (TrC.keep [13, 10, 0, 1, 2, 3] ?_)
      show TrC _ _ _ _ [(13, _), (10, _), (0, _), (1, _), (2, _), (3, _)] _ _
      -- region 2: zsortanyfunc.go:330
      refine tr_region ?_
      refine tr_val (ov_move rfl rfl) rfl rfl rfl ?_
      refine tr_val (ov_add rfl rfl rfl (w64 (by omega))) rfl rfl rfl ?_
      refine tr_val (ov_assign rfl rfl) rfl rfl rfl ?_
      skip
      exact tr_nil (hK2 (⟨i + 1, swT T1 (a + i) (b + i)⟩) _ _ (⟨by omega, by omega, by rw [swT_len]; exact hl1, swR_step hsw (by omega) ha hb hi0 (by omega) (by omega) (by omega), fun lo hi q0 q1 q2 q3 q4 q5 => (hmv lo hi q0 q1 q2 q3 q4 q5).trans (swT_mv q0 (by omega) (by omega) (by omega) (by omega) (by omega)), H⟩) (by (dsimp only; omega)) (Sub.cons rfl (Sub.cons rfl (Sub.cons rfl (Sub.cons rfl (Sub.cons rfl Sub.nil))))))
  · skip
    refine tr_exit (post_ret0 (.inl rfl) rfl  ?_)
    have hik : i = k := by omega
    subst hik
    exact ⟨T1, hsw, hmv, H⟩

/-! slices.rotateCmpFunc[curfew/slots.Thing] -/
set_option maxRecDepth 20000 in
theorem rotate_c (B : Option Addr) (c n : Nat) (T : List TT) (a m b : Int) (w : World) (hV : (vec B c 30 3 encTT T).holds w) (hn : T.length = n) (hN : n ≤ 4294967296) (ha : 0 ≤ a) (ham : a < m) (hmb : m < b) (hb : b ≤ n) : Does Try.prog 117 #[.slice B n c, .int .i64 a, .int .i64 m, .int .i64 b, .func (.func 59) #[] #[]] w (fun v w' => ∃ T', Mv a b T T' ∧ (∀ x, a ≤ x → x < b → gt T' x = rotV T a m b x) ∧ SH w (vec B c 30 3 encTT T).foot [vec B c 30 3 encTT T'] w') := by
  refine does_enter5 Try.func117 rfl Try.ntmps117 rfl ?_
  have H := SH.own1 hV
  refine tr_seq (fun K1 hK1 => ?_)
  -- region 0: zsortanyfunc.go:465
  refine tr_region ?_
  refine tr_val (ov_move rfl rfl) rfl rfl rfl ?_
  refine tr_val (ov_move rfl rfl) rfl rfl rfl ?_
  refine tr_val (ov_sub rfl rfl rfl (w64 (by omega))) rfl rfl rfl ?_
  refine tr_val (ov_assign rfl rfl) rfl rfl rfl ?_
  refine tr_nil (hK1 _ _ (TrC.keep [10, 0, 2, 3, 4] ?_))
  show TrC _ _ _ _ [(10, _), (0, _), (2, _), (3, _), (4, _)] _ _
  refine tr_seq (fun K2 hK2 => ?_)
  -- region 1: zsortanyfunc.go:466
  refine tr_region ?_
  refine tr_val (ov_move rfl rfl) rfl rfl rfl ?_
  refine tr_val (ov_move rfl rfl) rfl rfl rfl ?_
  refine tr_val (ov_sub rfl rfl rfl (w64 (by omega))) rfl rfl rfl ?_
  refine tr_val (ov_assign rfl rfl) rfl rfl rfl ?_
  refine tr_nil (hK2 _ _ (TrC.keep [11, 10, 0, 2, 4] ?_))
  show TrC _ _ _ _ [(11, _), (10, _), (0, _), (2, _), (4, _)] _ _
  refine tr_seq (fun K3 hK3 => ?_)
  refine tr_block ?_
  refine tr_loop_ (X := Int × Int × List TT) [0, 2, 4] (fun ⟨i, j, T1⟩ => [(10, .int .i64 i), (11, .int .i64 j)]) (fun ⟨i, j, T1⟩ w' => 0 < i ∧ i ≤ m - a ∧ 0 < j ∧ j ≤ b - m ∧ Mv a b T T1 ∧ Rot T a m b T1 i j ∧ SH w (vec B c 30 3 encTT T).foot [vec B c 30 3 encTT T1] w') (fun ⟨i, j, T1⟩ => (i + j).toNat) (⟨m - a, b - m, T⟩) (Sub.cons rfl (Sub.cons rfl (Sub.cons rfl (Sub.cons rfl (Sub.cons rfl Sub.nil))))) (⟨by omega, by omega, by omega, by omega, Mv.refl _ _ _, rot_start, H⟩) ?_
  rintro ⟨i, j, T1⟩ w1 ⟨hi0, hi1, hj0, hj1, hm1, hr, H⟩ K4 hK4
  have hl1 := hm1.len
  show TrC _ _ _ _ [(10, _), (11, _), (0, _), (2, _), (4, _)] _ _
  refine tr_seq (fun K5 hK5 => ?_)
  refine tr_seq (fun K6 hK6 => ?_)
  -- region 2: zsortanyfunc.go:468
  refine tr_region ?_
  refine tr_val (ov_move rfl rfl) rfl rfl rfl ?_
  refine tr_val (ov_move rfl rfl) rfl rfl rfl ?_
  refine tr_val (ov_neq rfl rfl rfl) rfl rfl rfl ?_
  refine tr_nil (hK6 _ _ (TrC.keep [20, 10, 11, 0, 2, 4] ?_))
  show TrC _ _ _ _ [(20, _), (10, _), (11, _), (0, _), (2, _), (4, _)] _ _
  refine tr_cond rfl (fun c20 => ?_) (fun c20 => ?_)
  · skip
    refine tr_skip (hK5 _ _ (TrC.keep [20, 10, 11, 0, 2, 4] ?_))
    show TrC _ _ _ _ [(20, _), (10, _), (11, _), (0, _), (2, _), (4, _)] _ _
    refine tr_block ?_
    refine tr_seq (fun K7 hK7 => ?_)
    -- region 3: zsortanyfunc.go:469
    refine tr_region ?_
    refine tr_val (ov_move rfl rfl) rfl rfl rfl ?_
    refine tr_val (ov_move rfl rfl) rfl rfl rfl ?_
    refine tr_val (ov_gtr rfl rfl rfl) rfl rfl rfl ?_
    refine tr_nil (hK7 _ _ (TrC.keep [23, 20, 10, 11, 0, 2, 4] ?_))
    show TrC _ _ _ _ [(23, _), (20, _), (10, _), (11, _), (0, _), (2, _), (4, _)] _ _
    refine tr_cond rfl (fun c23 => ?_) (fun c23 => ?_)
    · skip
      refine tr_seq (fun K8 hK8 => ?_)
      -- region 4: zsortanyfunc.go:470
      refine tr_region ?_
      refine tr_val (ov_move rfl rfl) rfl rfl rfl ?_
      refine tr_val (ov_move rfl rfl) rfl rfl rfl ?_
      refine tr_val (ov_move rfl rfl) rfl rfl rfl ?_
      refine tr_val (ov_sub rfl rfl rfl (w64 (by omega))) rfl rfl rfl ?_
      refine tr_val (ov_move rfl rfl) rfl rfl rfl ?_
      refine tr_val (ov_move rfl rfl) rfl rfl rfl ?_
      refine tr_val (ov_move rfl rfl) rfl rfl rfl ?_
      refine tr_call (swapRange_c B c n T1 (m - i) (m) (j) _ H.get0 (by omega) hN (by omega) (by omega) (by omega) (by omega) (by omega) (by omega)) rfl rfl rfl Try.call118 rfl rfl rfl ?_
      rintro _ w2 ⟨T2, hsw, hmv, HC⟩
      have H := H.call1 HC
      have hmv2 := hmv a b ha (by omega) (by omega) (by omega) (by omega) (by omega)
      refine tr_nil (hK8 _ _ (TrC.keep [23, 20, 10, 11, 0, 2, 4] ?_))
      show TrC _ _ _ _ [(23, _), (20, _), (10, _), (11, _), (0, _), (2, _), (4, _)] _ _
      -- region 5: zsortanyfunc.go:471
      refine tr_region ?_
      refine tr_val (ov_move rfl rfl) rfl rfl rfl ?_
      refine tr_val (ov_move rfl rfl) rfl rfl rfl ?_
      refine tr_val (ov_sub rfl rfl rfl (w64 (by omega))) rfl rfl rfl ?_
      refine tr_val (ov_assign rfl rfl) rfl rfl rfl ?_
      skip
      exact tr_nil (hK4 (⟨i - j, j, T2⟩) _ _ (⟨by omega, by omega, by omega, by omega, hm1.trans hmv2, rot_gt hr ha (by omega) hi1 hj1 hj0 (by omega) hsw, H⟩) (by (dsimp only; omega)) (Sub.cons rfl (Sub.cons rfl (Sub.cons rfl (Sub.cons rfl (Sub.cons rfl Sub.nil))))))
    · skip
      refine tr_seq (fun K9 hK9 => ?_)
      -- region 6: zsortanyfunc.go:473
      refine tr_region ?_
      refine tr_val (ov_move rfl rfl) rfl rfl rfl ?_
      refine tr_val (ov_move rfl rfl) rfl rfl rfl ?_
      refine tr_val (ov_move rfl rfl) rfl rfl rfl ?_
      refine tr_val (ov_sub rfl rfl rfl (w64 (by omega))) rfl rfl rfl ?_
      refine tr_val (ov_move rfl rfl) rfl rfl rfl ?_
      refine tr_val (ov_move rfl rfl) rfl rfl rfl ?_
      refine tr_val (ov_add rfl rfl rfl (w64 (by omega))) rfl rfl rfl ?_
      refine tr_val (ov_move rfl rfl) rfl rfl rfl ?_
      refine tr_val (ov_sub rfl rfl rfl (w64 (by omega))) rfl rfl rfl ?_
      refine tr_val (ov_move rfl rfl) rfl rfl rfl ?_
      refine tr_val (ov_move rfl rfl) rfl rfl rfl ?_
      refine tr_call (swapRange_c B c n T1 (m - i) (m + j - i) (i) _ H.get0 (by omega) hN (by omega) (by omega) (by omega) (by omega) (by omega) (by omega)) rfl rfl rfl Try.call118 rfl rfl rfl ?_
      rintro _ w3 ⟨T2, hsw, hmv, HC⟩
      have H := H.call1 HC
      have hmv2 := hmv a b ha (by omega) (by omega) (by omega) (by omega) (by omega)
      refine tr_nil (hK9 _ _ (TrC.keep [23, 20, 10, 11, 0, 2, 4] ?_))
      show TrC _ _ _ _ [(23, _), (20, _), (10, _), (11, _), (0, _), (2, _), (4, _)] _ _
      -- region 7: zsortanyfunc.go:474
      refine tr_region ?_
      refine tr_val (ov_move rfl rfl) rfl rfl rfl ?_
      refine tr_val (ov_move rfl rfl) rfl rfl rfl ?_
      refine tr_val (ov_sub rfl rfl rfl (w64 (by omega))) rfl rfl rfl ?_
      refine tr_val (ov_assign rfl rfl) rfl rfl rfl ?_
      skip
      exact tr_nil (hK4 (⟨i, j - i, T2⟩) _ _ (⟨by omega, by omega, by omega, by omega, hm1.trans hmv2, rot_lt hr ha (by omega) hi1 hj1 hi0 (by omega) hsw, H⟩) (by (dsimp only; omega)) (Sub.cons rfl (Sub.cons rfl (Sub.cons rfl (Sub.cons rfl (Sub.cons rfl Sub.nil))))))
  · skip
    refine tr_exit (hK3 _ _ (TrC.keep [20, 10, 11, 0, 2, 4] ?_))
    show TrC _ _ _ _ [(20, _), (10, _), (11, _), (0, _), (2, _), (4, _)] _ _
    -- region 8: zsortanyfunc.go:478
    refine tr_region ?_
    refine tr_val (ov_move rfl rfl) rfl rfl rfl ?_
    refine tr_val (ov_move rfl rfl) rfl rfl rfl ?_
    refine tr_val (ov_move rfl rfl) rfl rfl rfl ?_
    refine tr_val (ov_sub rfl rfl rfl (w64 (by omega))) rfl rfl rfl ?_
    refine tr_val (ov_move rfl rfl) rfl rfl rfl ?_
    refine tr_val (ov_move rfl rfl) rfl rfl rfl ?_
    refine tr_val (ov_move rfl rfl) rfl rfl rfl ?_
    refine tr_call (swapRange_c B c n T1 (m - i) (m) (i) _ H.get0 (by omega) hN (by omega) (by omega) (by omega) (by omega) (by omega) (by omega)) rfl rfl rfl Try.call118 rfl rfl rfl ?_
    rintro _ w4 ⟨T2, hsw, hmv, HC⟩
    have H := H.call1 HC
    have hmv2 := hmv a b ha (by omega) (by omega) (by omega) (by omega) (by omega)
    refine tr_nil (post_ret0 (.inl rfl) rfl  ?_)
    have hij : j = i := by omega
    subst hij
    exact ⟨T2, hm1.trans hmv2, rot_end hr ha (by omega) hi1 hj1 hi0 hsw, H⟩

def SymPre (n : Nat) (T : List TT) (a m b : Int) : Prop := T.length = n ∧ 0 ≤ a ∧ a < m ∧ m < b ∧ b ≤ n ∧ Srt T a m ∧ Srt T m b ∧ Tg T a m b
def SymDoes (B : Option Addr) (c n : Nat) (T : List TT) (a m b : Int) (w : World) : Prop :=
  Does Try.prog 112 #[.slice B n c, .int .i64 a, .int .i64 m, .int .i64 b, .func (.func 59) #[] #[]] w (fun v w' => ∃ T', Mv a b T T' ∧ Srt T' a b ∧ SH w (vec B c 30 3 encTT T).foot [vec B c 30 3 encTT T'] w')

/-! slices.symMergeCmpFunc[curfew/slots.Thing] -/
set_option maxRecDepth 20000 in
theorem symMerge_step (B : Option Addr) (c n : Nat) (T : List TT) (a m b : Int) (w : World) (ih : ∀ (T : List TT) (a' m' b' : Int) (w : World), (vec B c 30 3 encTT T).holds w → SymPre n T a' m' b' → (b' - a').toNat < (b - a).toNat → SymDoes B c n T a' m' b' w) (hV : (vec B c 30 3 encTT T).holds w) (hN : n ≤ 4294967296) (hp : SymPre n T a m b) : Does Try.prog 112 #[.slice B n c, .int .i64 a, .int .i64 m, .int .i64 b, .func (.func 59) #[] #[]] w (fun v w' => ∃ T', Mv a b T T' ∧ Srt T' a b ∧ SH w (vec B c 30 3 encTT T).foot [vec B c 30 3 encTT T'] w') := by
  refine does_enter5 Try.func112 rfl Try.ntmps112 rfl ?_
  have H := SH.own1 hV
  obtain ⟨hn, ha, ham, hmb, hb, hs1, hs2, htg⟩ := hp
  have hlh := lohi a m b
  refine tr_seq (fun K1 hK1 => ?_)
  refine tr_seq (fun K2 hK2 => ?_)
  -- region 0: zsortanyfunc.go:382
  refine tr_region ?_
  refine tr_val (ov_move rfl rfl) rfl rfl rfl ?_
  refine tr_val (ov_move rfl rfl) rfl rfl rfl ?_
  refine tr_val (ov_sub rfl rfl rfl (w64 (by omega))) rfl rfl rfl ?_
  refine tr_val (ov_eql rfl rfl rfl) rfl rfl rfl ?_
  refine tr_nil (hK2 _ _ (TrC.keep [28, 0, 1, 2, 3, 4] ?_))
  show TrC _ _ _ _ [(28, _), (0, _), (1, _), (2, _), (3, _), (4, _)] _ _
  refine tr_cond rfl (fun c28 => ?_) (fun c28 => ?_)
  · skip
    refine tr_seq (fun K3 hK3 => ?_)
    -- region 1: zsortanyfunc.go:386
    refine tr_region ?_
    refine tr_val (ov_move rfl rfl) rfl rfl rfl ?_
    refine tr_val (ov_assign rfl rfl) rfl rfl rfl ?_
    refine tr_nil (hK3 _ _ (TrC.keep [10, 28, 0, 1, 2, 3, 4] ?_))
    show TrC _ _ _ _ [(10, _), (28, _), (0, _), (1, _), (2, _), (3, _), (4, _)] _ _
    refine tr_seq (fun K4 hK4 => ?_)
    -- region 2: zsortanyfunc.go:387
    refine tr_region ?_
    refine tr_val (ov_move rfl rfl) rfl rfl rfl ?_
    refine tr_val (ov_assign rfl rfl) rfl rfl rfl ?_
    refine tr_nil (hK4 _ _ (TrC.keep [11, 10, 28, 0, 1, 2, 3, 4] ?_))
    show TrC _ _ _ _ [(11, _), (10, _), (28, _), (0, _), (1, _), (2, _), (3, _), (4, _)] _ _
    refine tr_seq (fun K5 hK5 => ?_)
    refine tr_block ?_
    refine tr_loop_ (X := Int × Int) [28, 0, 1, 2, 3, 4] (fun ⟨i, j⟩ => [(10, .int .i64 i), (11, .int .i64 j)]) (fun ⟨i, j⟩ w' => m ≤ i ∧ i ≤ j ∧ j ≤ b ∧ (i = m ∨ ltT (gt T (i - 1)).1 (gt T a).1) ∧ (j = b ∨ ¬ ltT (gt T j).1 (gt T a).1) ∧ SH w (vec B c 30 3 encTT T).foot [vec B c 30 3 encTT T] w') (fun ⟨i, j⟩ => (j - i).toNat) (⟨m, b⟩) (Sub.cons rfl (Sub.cons rfl (Sub.cons rfl (Sub.cons rfl (Sub.cons rfl (Sub.cons rfl (Sub.cons rfl (Sub.cons rfl Sub.nil)))))))) (⟨by omega, by omega, by omega, .inl rfl, .inl rfl, H⟩) ?_
    rintro ⟨i, j⟩ w1 ⟨hi0, hij, hj1, hA, hB, H⟩ K6 hK6
    show TrC _ _ _ _ [(10, _), (11, _), (28, _), (0, _), (1, _), (2, _), (3, _), (4, _)] _ _
    refine tr_seq (fun K7 hK7 => ?_)
    refine tr_seq (fun K8 hK8 => ?_)
    -- region 3: zsortanyfunc.go:388
    refine tr_region ?_
    refine tr_val (ov_move rfl rfl) rfl rfl rfl ?_
    refine tr_val (ov_move rfl rfl) rfl rfl rfl ?_
    refine tr_val (ov_lss rfl rfl rfl) rfl rfl rfl ?_
    refine tr_nil (hK8 _ _ (TrC.keep [33, 10, 11, 28, 0, 1, 2, 3, 4] ?_))
    show TrC _ _ _ _ [(33, _), (10, _), (11, _), (28, _), (0, _), (1, _), (2, _), (3, _), (4, _)] _ _
    refine tr_cond rfl (fun c33 => ?_) (fun c33 => ?_)
    · skip
      refine tr_skip (hK7 _ _ (TrC.keep [33, 10, 11, 28, 0, 1, 2, 3, 4] ?_))
      show TrC _ _ _ _ [(33, _), (10, _), (11, _), (28, _), (0, _), (1, _), (2, _), (3, _), (4, _)] _ _
      refine tr_block ?_
      refine tr_seq (fun K9 hK9 => ?_)
      -- region 4: zsortanyfunc.go:389
      refine tr_region ?_
      refine tr_val (ov_move rfl rfl) rfl rfl rfl ?_
      refine tr_val (ov_move rfl rfl) rfl rfl rfl ?_
      refine tr_val (ov_add rfl rfl rfl (w64 (by omega))) rfl rfl rfl ?_
      refine tr_val (ov_conv rfl Try.underlying3 Try.underlying125 rfl (wu64 (by omega))) rfl rfl rfl ?_
      refine tr_val (ov_shr rfl rfl rfl (by omega) (fdiv_two _)) rfl rfl rfl ?_
      refine tr_val (ov_conv rfl Try.underlying125 Try.underlying3 rfl (w64 (by omega))) rfl rfl rfl ?_
      refine tr_val (ov_assign rfl rfl) rfl rfl rfl ?_
      refine tr_nil (hK9 _ _ (TrC.keep [12, 33, 10, 11, 28, 0, 1, 2, 3, 4] ?_))
      show TrC _ _ _ _ [(12, _), (33, _), (10, _), (11, _), (28, _), (0, _), (1, _), (2, _), (3, _), (4, _)] _ _
      refine tr_seq (fun K10 hK10 => ?_)
      -- region 5: zsortanyfunc.go:390
      refine tr_quiet mixed (by kernel_rfl) H ?_
      refine tq_val (fun _ H => ov_move rfl rfl) rfl rfl rfl ?_
      refine tq_val (fun _ H => ov_move rfl rfl) rfl rfl rfl ?_
      refine tq_val (fun _ H => ov_move rfl rfl) rfl rfl rfl ?_
      refine tq_val (fun _ H => ov_indexAddrN (vec_rd H.get0 lenTT (by decide)) (by omega) rfl Try.underlying32 (Try.sizeOf30 _) rfl rfl (by omega) (by omega)) rfl rfl rfl ?_
      refine tq_val (fun _ H => ld_TT (vec_rd H.get0 lenTT (by decide)) rfl (Try.isAgg30 _) (Try.sizeOf30 _) rfl (by omega) (by omega)) rfl rfl rfl ?_
      refine tq_val (fun _ H => ov_move rfl rfl) rfl rfl rfl ?_
      refine tq_val (fun _ H => ov_move rfl rfl) rfl rfl rfl ?_
      refine tq_val (fun _ H => ov_indexAddrN (vec_rd H.get0 lenTT (by decide)) (by omega) rfl Try.underlying32 (Try.sizeOf30 _) rfl rfl (by omega) (by omega)) rfl rfl rfl ?_
      refine tq_val (fun _ H => ld_TT (vec_rd H.get0 lenTT (by decide)) rfl (Try.isAgg30 _) (Try.sizeOf30 _) rfl (by omega) (by omega)) rfl rfl rfl ?_
      refine tq_call (fun _ H => (order_c (gt T ((i + j) / 2)).1 (gt T a).1 _).mono (fun _ _ hq => ⟨hq.1, H.call0n hq.2⟩)) rfl rfl rfl Try.call59 rfl rfl rfl ?_
      refine tq_val (fun _ H => ov_lss rfl rfl rfl) rfl rfl rfl ?_
      refine tq_nil ?_
      intro w2 H
      refine hK10 _ _ (TrC.keep [50, 12, 33, 10, 11, 28, 0, 1, 2, 3, 4] ?_)
      show TrC _ _ _ _ [(50, _), (12, _), (33, _), (10, _), (11, _), (28, _), (0, _), (1, _), (2, _), (3, _), (4, _)] _ _
      refine tr_cond rfl (fun c50 => ?_) (fun c50 => ?_)
      · skip
        -- region 6: zsortanyfunc.go:391
        refine tr_region ?_
        refine tr_val (ov_move rfl rfl) rfl rfl rfl ?_
        refine tr_val (ov_add rfl rfl rfl (w64 (by omega))) rfl rfl rfl ?_
        refine tr_val (ov_assign rfl rfl) rfl rfl rfl ?_
        skip
        exact tr_nil (hK6 (⟨(i + j) / 2 + 1, j⟩) _ _ (⟨by omega, by omega, by omega, .inr (by rw [show (i + j) / 2 + 1 - 1 = (i + j) / 2 by omega]; exact ord_lt.mp c50), hB, H⟩) (by (dsimp only; omega)) (Sub.cons rfl (Sub.cons rfl (Sub.cons rfl (Sub.cons rfl (Sub.cons rfl (Sub.cons rfl (Sub.cons rfl (Sub.cons rfl Sub.nil)))))))))
      · skip
        -- region 7: zsortanyfunc.go:393
        refine tr_region ?_
        refine tr_val (ov_move rfl rfl) rfl rfl rfl ?_
        refine tr_val (ov_assign rfl rfl) rfl rfl rfl ?_
        skip
        exact tr_nil (hK6 (⟨i, (i + j) / 2⟩) _ _ (⟨by omega, by omega, by omega, hA, .inr (fun q => c50 (ord_lt.mpr q)), H⟩) (by (dsimp only; omega)) (Sub.cons rfl (Sub.cons rfl (Sub.cons rfl (Sub.cons rfl (Sub.cons rfl (Sub.cons rfl (Sub.cons rfl (Sub.cons rfl Sub.nil)))))))))
    · skip
      refine tr_exit (hK5 _ _ (TrC.keep [33, 10, 11, 28, 0, 1, 2, 3, 4] ?_))
      show TrC _ _ _ _ [(33, _), (10, _), (11, _), (28, _), (0, _), (1, _), (2, _), (3, _), (4, _)] _ _
      refine tr_seq (fun K11 hK11 => ?_)
      refine tr_seq (fun K12 hK12 => ?_)
      -- region 8: zsortanyfunc.go:397
      refine tr_region ?_
      refine tr_val (ov_move rfl rfl) rfl rfl rfl ?_
      refine tr_val (ov_assign rfl rfl) rfl rfl rfl ?_
      refine tr_nil (hK12 _ _ (TrC.keep [13, 33, 10, 11, 28, 0, 1, 2, 3, 4] ?_))
      show TrC _ _ _ _ [(13, _), (33, _), (10, _), (11, _), (28, _), (0, _), (1, _), (2, _), (3, _), (4, _)] _ _
      refine tr_block ?_
      refine tr_loop_ (X := Int × List TT) [33, 10, 11, 28, 0, 1, 2, 3, 4] (fun ⟨k, T1⟩ => [(13, .int .i64 k)]) (fun ⟨k, T1⟩ w' => a ≤ k ∧ k ≤ i - 1 ∧ Mv a b T T1 ∧ ShL T T1 a k ∧ SH w (vec B c 30 3 encTT T).foot [vec B c 30 3 encTT T1] w') (fun ⟨k, T1⟩ => (i - k).toNat) (⟨a, T⟩) (Sub.cons rfl (Sub.cons rfl (Sub.cons rfl (Sub.cons rfl (Sub.cons rfl (Sub.cons rfl (Sub.cons rfl (Sub.cons rfl (Sub.cons rfl (Sub.cons rfl Sub.nil)))))))))) (⟨by omega, by omega, Mv.refl _ _ _, shL_start, H⟩) ?_
      rintro ⟨k, T1⟩ w3 ⟨hk0, hk1, hm1, hsh, H⟩ K13 hK13
      have hl1 := hm1.len
      show TrC _ _ _ _ [(13, _), (33, _), (10, _), (11, _), (28, _), (0, _), (1, _), (2, _), (3, _), (4, _)] _ _
      refine tr_seq (fun K14 hK14 => ?_)
      refine tr_seq (fun K15 hK15 => ?_)
      -- region 9: zsortanyfunc.go:397
      refine tr_region ?_
      refine tr_val (ov_move rfl rfl) rfl rfl rfl ?_
      refine tr_val (ov_move rfl rfl) rfl rfl rfl ?_
      refine tr_val (ov_sub rfl rfl rfl (w64 (by omega))) rfl rfl rfl ?_
      refine tr_val (ov_lss rfl rfl rfl) rfl rfl rfl ?_
      refine tr_nil (hK15 _ _ (TrC.keep [58, 13, 33, 10, 11, 28, 0, 1, 2, 3, 4] ?_))
      show TrC _ _ _ _ [(58, _), (13, _), (33, _), (10, _), (11, _), (28, _), (0, _), (1, _), (2, _), (3, _), (4, _)] _ _
      refine tr_cond rfl (fun c58 => ?_) (fun c58 => ?_)
      · skip
        refine tr_skip (hK14 _ _ (TrC.keep [58, 13, 33, 10, 11, 28, 0, 1, 2, 3, 4] ?_))
        show TrC _ _ _ _ [(58, _), (13, _), (33, _), (10, _), (11, _), (28, _), (0, _), (1, _), (2, _), (3, _), (4, _)] _ _
        refine tr_seq (fun K16 hK16 => ?_)
        refine tr_block ?_
        -- region 11: zsortanyfunc.go:398
        have hsome := rd_some (vec_rd H.get0 lenTT (by decide)) (i := k) (by omega) (by omega)
        refine tr_held (fun _ => True) mixed rfl H ?_
        intro w4 H
        refine th_take 0 rfl (by kernel_rfl) (by kernel_rfl) (by kernel_rfl) (trivial) (fun _ hS => ov_move rfl rfl) rfl rfl rfl ?_
        refine th_take 1 rfl (by kernel_rfl) (by kernel_rfl) (by kernel_rfl) (trivial) (fun _ hS => ov_move rfl rfl) rfl rfl rfl ?_
        refine th_take 2 rfl (by kernel_rfl) (by kernel_rfl) (by kernel_rfl) (trivial) (fun _ hS => ov_move rfl rfl) rfl rfl rfl ?_
        refine th_take 3 rfl (by kernel_rfl) (by kernel_rfl) (by kernel_rfl) (trivial) (fun _ hS => ov_move rfl rfl) rfl rfl rfl ?_
        refine th_take 4 rfl (by kernel_rfl) (by kernel_rfl) (by kernel_rfl) (trivial) (fun _ hS => ov_add rfl rfl rfl (w64 (by omega))) rfl rfl rfl ?_
        refine th_take 5 rfl (by kernel_rfl) (by kernel_rfl) (by kernel_rfl) (trivial) (fun _ hS => ov_move rfl rfl) rfl rfl rfl ?_
        refine th_take 6 rfl (by kernel_rfl) (by kernel_rfl) (by kernel_rfl) (trivial) (fun _ hS => ov_move rfl rfl) rfl rfl rfl ?_
        refine th_take 7 rfl (by kernel_rfl) (by kernel_rfl) (by kernel_rfl) (trivial) (fun _ hS => ov_add rfl rfl rfl (w64 (by omega))) rfl rfl rfl ?_
        refine th_take 8 rfl (by kernel_rfl) (by kernel_rfl) (by kernel_rfl) (trivial) (fun _ hS => ov_indexAddr rfl Try.underlying32 (Try.sizeOf30 _) rfl rfl (by omega) (by omega) hsome) rfl rfl rfl ?_
        refine th_take 10 rfl (by kernel_rfl) (by kernel_rfl) (by kernel_rfl) (trivial) (fun _ hS => ov_move rfl rfl) rfl rfl rfl ?_
        refine th_take 11 rfl (by kernel_rfl) (by kernel_rfl) (by kernel_rfl) (trivial) (fun _ hS => ov_move rfl rfl) rfl rfl rfl ?_
        refine th_take 12 rfl (by kernel_rfl) (by kernel_rfl) (by kernel_rfl) (trivial) (fun _ hS => ov_indexAddr rfl Try.underlying32 (Try.sizeOf30 _) rfl rfl (by omega) (by omega) hsome) rfl rfl rfl ?_
        refine th_two 9 13 (by kernel_rfl) ?_ ?_
        · skip
          refine tw_val (ld_TT (vec_rd H.get0 lenTT (by decide)) rfl (Try.isAgg30 _) (Try.sizeOf30 _) rfl (by omega) (by omega)) rfl (trivial) rfl rfl rfl ?_
          refine th_one 13 (by kernel_rfl) ?_
          refine tw_val (ld_TT (vec_rd H.get0 lenTT (by decide)) rfl (Try.isAgg30 _) (Try.sizeOf30 _) rfl (by omega) (by omega)) rfl (trivial) rfl rfl rfl ?_
          refine th_take 14 rfl (by kernel_rfl) (by kernel_rfl) (by kernel_rfl) (trivial) (fun _ hS => ov_indexAddr rfl Try.underlying32 (Try.sizeOf30 _) rfl rfl (by omega) (by omega) hsome) rfl rfl rfl ?_
          refine th_one 15 (by kernel_rfl) ?_
          refine tw_store_vec (i := k) (k := 0) (gt T1 (k + 1)) [.int .u64 (gt T1 (k + 1)).1.id, .int .u64 (gt T1 (k + 1)).1.gen, .int .i64 (gt T1 (k + 1)).1.due] H.get0 lenTT rfl rfl rfl rfl rfl (by omega) (by omega) (Try.sizeOf30 _) (Nat.le_refl _) (List.cons_ne_nil _ _) rfl rfl rfl rfl rfl ?_
          intro w9 U; have H := H.upd0 U; clear U
          refine ⟨trivial, ?_⟩
          refine th_take 16 rfl (by kernel_rfl) (by kernel_rfl) (by kernel_rfl) (trivial) (fun _ hS => ov_indexAddr rfl Try.underlying32 (Try.sizeOf30 _) rfl rfl (by omega) (by omega) hsome) rfl rfl rfl ?_
          refine th_one 17 (by kernel_rfl) ?_
          refine tw_store_vec (i := k + 1) (k := 0) (gt T1 (k)) [.int .u64 (gt T1 (k)).1.id, .int .u64 (gt T1 (k)).1.gen, .int .i64 (gt T1 (k)).1.due] H.get0 lenTT rfl rfl rfl rfl rfl (by omega) (by rw [List.length_set]; omega) (Try.sizeOf30 _) (Nat.le_refl _) (List.cons_ne_nil _ _) rfl rfl rfl rfl rfl ?_
          intro w9 U; have H := H.upd0 U; clear U
          refine ⟨trivial, ?_⟩
          refine th_done (by kernel_rfl) ?_
          refine hK16 _ _ (TrC.keep [58, 13, 33, 10, 11, 28, 0, 1, 2, 3, 4] ?_)
          show TrC _ _ _ _ [(58, _), (13, _), (33, _), (10, _), (11, _), (28, _), (0, _), (1, _), (2, _), (3, _), (4, _)] _ _
          -- region 10: zsortanyfunc.go:397
          refine tr_region ?_
          refine tr_val (ov_move rfl rfl) rfl rfl rfl ?_
          refine tr_val (ov_add rfl rfl rfl (w64 (by omega))) rfl rfl rfl ?_
          refine tr_val (ov_assign rfl rfl) rfl rfl rfl ?_
          skip
          exact tr_nil (hK13 (⟨k + 1, swT T1 k (k + 1)⟩) _ _ (⟨by omega, by omega, hm1.trans (swT_mv ha (by omega) (by omega) (by omega) (by omega) (by omega)), shL_step hsh hl1 ha hk0 (by omega), H⟩) (by (dsimp only; omega)) (Sub.cons rfl (Sub.cons rfl (Sub.cons rfl (Sub.cons rfl (Sub.cons rfl (Sub.cons rfl (Sub.cons rfl (Sub.cons rfl (Sub.cons rfl (Sub.cons rfl Sub.nil)))))))))))
        · skip
          refine tw_val (ld_TT (vec_rd H.get0 lenTT (by decide)) rfl (Try.isAgg30 _) (Try.sizeOf30 _) rfl (by omega) (by omega)) rfl (trivial) rfl rfl rfl ?_
          refine th_one 9 (by kernel_rfl) ?_
          refine tw_val (ld_TT (vec_rd H.get0 lenTT (by decide)) rfl (Try.isAgg30 _) (Try.sizeOf30 _) rfl (by omega) (by omega)) rfl (trivial) rfl rfl rfl ?_
          refine th_take 14 rfl (by kernel_rfl) (by kernel_rfl) (by kernel_rfl) (trivial) (fun _ hS => ov_indexAddr rfl Try.underlying32 (Try.sizeOf30 _) rfl rfl (by omega) (by omega) hsome) rfl rfl rfl ?_
          refine th_one 15 (by kernel_rfl) ?_
          refine tw_store_vec (i := k) (k := 0) (gt T1 (k + 1)) [.int .u64 (gt T1 (k + 1)).1.id, .int .u64 (gt T1 (k + 1)).1.gen, .int .i64 (gt T1 (k + 1)).1.due] H.get0 lenTT rfl rfl rfl rfl rfl (by omega) (by omega) (Try.sizeOf30 _) (Nat.le_refl _) (List.cons_ne_nil _ _) rfl rfl rfl rfl rfl ?_
          intro w9 U; have H := H.upd0 U; clear U
          refine ⟨trivial, ?_⟩
          refine th_take 16 rfl (by kernel_rfl) (by kernel_rfl) (by kernel_rfl) (trivial) (fun _ hS => ov_indexAddr rfl Try.underlying32 (Try.sizeOf30 _) rfl rfl (by omega) (by omega) hsome) rfl rfl rfl ?_
          refine th_one 17 (by kernel_rfl) ?_
          refine tw_store_vec (i := k + 1) (k := 0) (gt T1 (k)) [.int .u64 (gt T1 (k)).1.id, .int .u64 (gt T1 (k)).1.gen, .int .i64 (gt T1 (k)).1.due] H.get0 lenTT rfl rfl rfl rfl rfl (by omega) (by rw [List.length_set]; omega) (Try.sizeOf30 _) (Nat.le_refl _) (List.cons_ne_nil _ _) rfl rfl rfl rfl rfl ?_
          intro w9 U; have H := H.upd0 U; clear U
          refine ⟨trivial, ?_⟩
          refine th_done (by kernel_rfl) ?_
          refine hK16 _ _ (TrC.keep [58, 13, 33, 10, 11, 28, 0, 1, 2, 3, 4] ?_)
          show TrC _ _ _ _ [(58, _), (13, _), (33, _), (10, _), (11, _), (28, _), (0, _), (1, _), (2, _), (3, _), (4, _)] _ _
          -- region 10: zsortanyfunc.go:397
          refine tr_region ?_
          refine tr_val (ov_move rfl rfl) rfl rfl rfl ?_
          refine tr_val (ov_add rfl rfl rfl (w64 (by omega))) rfl rfl rfl ?_
          refine tr_val (ov_assign rfl rfl) rfl rfl rfl ?_
          skip
          exact tr_nil (hK13 (⟨k + 1, swT T1 k (k + 1)⟩) _ _ (⟨by omega, by omega, hm1.trans (swT_mv ha (by omega) (by omega) (by omega) (by omega) (by omega)), shL_step hsh hl1 ha hk0 (by omega), H⟩) (by (dsimp only; omega)) (Sub.cons rfl (Sub.cons rfl (Sub.cons rfl (Sub.cons rfl (Sub.cons rfl (Sub.cons rfl (Sub.cons rfl (Sub.cons rfl (Sub.cons rfl (Sub.cons rfl Sub.nil)))))))))))
      · skip
        refine tr_exit (hK11 _ _ (TrC.keep [58, 13, 33, 10, 11, 28, 0, 1, 2, 3, 4] ?_))
        show TrC _ _ _ _ [(58, _), (13, _), (33, _), (10, _), (11, _), (28, _), (0, _), (1, _), (2, _), (3, _), (4, _)] _ _
        refine tr_ret (post_ret0 (.inr rfl) rfl  ?_)
        have hki : k = i - 1 := by omega
        subst hki
        have hm' : m = a + 1 := by omega
        subst hm'
        have hji : j = i := by omega
        subst hji
        exact ⟨T1, hm1, shL_end hsh ha (by omega) hs2 htg (by omega) (by omega) hA hB, H⟩
  · skip
    refine tr_skip (hK1 _ _ (TrC.keep [28, 0, 1, 2, 3, 4] ?_))
    show TrC _ _ _ _ [(28, _), (0, _), (1, _), (2, _), (3, _), (4, _)] _ _
    refine tr_seq (fun K17 hK17 => ?_)
    refine tr_seq (fun K18 hK18 => ?_)
    -- region 12: zsortanyfunc.go:406
    refine tr_region ?_
    refine tr_val (ov_move rfl rfl) rfl rfl rfl ?_
    refine tr_val (ov_move rfl rfl) rfl rfl rfl ?_
    refine tr_val (ov_sub rfl rfl rfl (w64 (by omega))) rfl rfl rfl ?_
    refine tr_val (ov_eql rfl rfl rfl) rfl rfl rfl ?_
    refine tr_nil (hK18 _ _ (TrC.keep [80, 28, 0, 1, 2, 3, 4] ?_))
    show TrC _ _ _ _ [(80, _), (28, _), (0, _), (1, _), (2, _), (3, _), (4, _)] _ _
    refine tr_cond rfl (fun c80 => ?_) (fun c80 => ?_)
    · skip
      refine tr_seq (fun K19 hK19 => ?_)
      -- region 13: zsortanyfunc.go:410
      refine tr_region ?_
      refine tr_val (ov_move rfl rfl) rfl rfl rfl ?_
      refine tr_val (ov_assign rfl rfl) rfl rfl rfl ?_
      refine tr_nil (hK19 _ _ (TrC.keep [14, 80, 28, 0, 1, 2, 3, 4] ?_))
      show TrC _ _ _ _ [(14, _), (80, _), (28, _), (0, _), (1, _), (2, _), (3, _), (4, _)] _ _
      refine tr_seq (fun K20 hK20 => ?_)
      -- region 14: zsortanyfunc.go:411
      refine tr_region ?_
      refine tr_val (ov_move rfl rfl) rfl rfl rfl ?_
      refine tr_val (ov_assign rfl rfl) rfl rfl rfl ?_
      refine tr_nil (hK20 _ _ (TrC.keep [15, 14, 80, 28, 0, 1, 2, 3, 4] ?_))
      show TrC _ _ _ _ [(15, _), (14, _), (80, _), (28, _), (0, _), (1, _), (2, _), (3, _), (4, _)] _ _
      refine tr_seq (fun K21 hK21 => ?_)
      refine tr_block ?_
      refine tr_loop_ (X := Int × Int) [80, 28, 0, 1, 2, 3, 4] (fun ⟨i, j⟩ => [(14, .int .i64 i), (15, .int .i64 j)]) (fun ⟨i, j⟩ w' => a ≤ i ∧ i ≤ j ∧ j ≤ m ∧ (i = a ∨ ¬ ltT (gt T m).1 (gt T (i - 1)).1) ∧ (j = m ∨ ltT (gt T m).1 (gt T j).1) ∧ SH w (vec B c 30 3 encTT T).foot [vec B c 30 3 encTT T] w') (fun ⟨i, j⟩ => (j - i).toNat) (⟨a, m⟩) (Sub.cons rfl (Sub.cons rfl (Sub.cons rfl (Sub.cons rfl (Sub.cons rfl (Sub.cons rfl (Sub.cons rfl (Sub.cons rfl (Sub.cons rfl Sub.nil))))))))) (⟨by omega, by omega, by omega, .inl rfl, .inl rfl, H⟩) ?_
      rintro ⟨i, j⟩ w5 ⟨hi0, hij, hj1, hA, hB, H⟩ K22 hK22
      show TrC _ _ _ _ [(14, _), (15, _), (80, _), (28, _), (0, _), (1, _), (2, _), (3, _), (4, _)] _ _
      refine tr_seq (fun K23 hK23 => ?_)
      refine tr_seq (fun K24 hK24 => ?_)
      -- region 15: zsortanyfunc.go:412
      refine tr_region ?_
      refine tr_val (ov_move rfl rfl) rfl rfl rfl ?_
      refine tr_val (ov_move rfl rfl) rfl rfl rfl ?_
      refine tr_val (ov_lss rfl rfl rfl) rfl rfl rfl ?_
      refine tr_nil (hK24 _ _ (TrC.keep [85, 14, 15, 80, 28, 0, 1, 2, 3, 4] ?_))
      show TrC _ _ _ _ [(85, _), (14, _), (15, _), (80, _), (28, _), (0, _), (1, _), (2, _), (3, _), (4, _)] _ _
      refine tr_cond rfl (fun c85 => ?_) (fun c85 => ?_)
      · skip
        refine tr_skip (hK23 _ _ (TrC.keep [85, 14, 15, 80, 28, 0, 1, 2, 3, 4] ?_))
        show TrC _ _ _ _ [(85, _), (14, _), (15, _), (80, _), (28, _), (0, _), (1, _), (2, _), (3, _), (4, _)] _ _
        refine tr_block ?_
        refine tr_seq (fun K25 hK25 => ?_)
        -- region 16: zsortanyfunc.go:413
        refine tr_region ?_
        refine tr_val (ov_move rfl rfl) rfl rfl rfl ?_
        refine tr_val (ov_move rfl rfl) rfl rfl rfl ?_
        refine tr_val (ov_add rfl rfl rfl (w64 (by omega))) rfl rfl rfl ?_
        refine tr_val (ov_conv rfl Try.underlying3 Try.underlying125 rfl (wu64 (by omega))) rfl rfl rfl ?_
        refine tr_val (ov_shr rfl rfl rfl (by omega) (fdiv_two _)) rfl rfl rfl ?_
        refine tr_val (ov_conv rfl Try.underlying125 Try.underlying3 rfl (w64 (by omega))) rfl rfl rfl ?_
        refine tr_val (ov_assign rfl rfl) rfl rfl rfl ?_
        refine tr_nil (hK25 _ _ (TrC.keep [16, 85, 14, 15, 80, 28, 0, 1, 2, 3, 4] ?_))
        show TrC _ _ _ _ [(16, _), (85, _), (14, _), (15, _), (80, _), (28, _), (0, _), (1, _), (2, _), (3, _), (4, _)] _ _
        refine tr_seq (fun K26 hK26 => ?_)
        -- region 17: zsortanyfunc.go:414
        refine tr_quiet mixed (by kernel_rfl) H ?_
        refine tq_val (fun _ H => ov_move rfl rfl) rfl rfl rfl ?_
        refine tq_val (fun _ H => ov_move rfl rfl) rfl rfl rfl ?_
        refine tq_val (fun _ H => ov_move rfl rfl) rfl rfl rfl ?_
        refine tq_val (fun _ H => ov_indexAddrN (vec_rd H.get0 lenTT (by decide)) (by omega) rfl Try.underlying32 (Try.sizeOf30 _) rfl rfl (by omega) (by omega)) rfl rfl rfl ?_
        refine tq_val (fun _ H => ld_TT (vec_rd H.get0 lenTT (by decide)) rfl (Try.isAgg30 _) (Try.sizeOf30 _) rfl (by omega) (by omega)) rfl rfl rfl ?_
        refine tq_val (fun _ H => ov_move rfl rfl) rfl rfl rfl ?_
        refine tq_val (fun _ H => ov_move rfl rfl) rfl rfl rfl ?_
        refine tq_val (fun _ H => ov_indexAddrN (vec_rd H.get0 lenTT (by decide)) (by omega) rfl Try.underlying32 (Try.sizeOf30 _) rfl rfl (by omega) (by omega)) rfl rfl rfl ?_
        refine tq_val (fun _ H => ld_TT (vec_rd H.get0 lenTT (by decide)) rfl (Try.isAgg30 _) (Try.sizeOf30 _) rfl (by omega) (by omega)) rfl rfl rfl ?_
        refine tq_call (fun _ H => (order_c (gt T m).1 (gt T ((i + j) / 2)).1 _).mono (fun _ _ hq => ⟨hq.1, H.call0n hq.2⟩)) rfl rfl rfl Try.call59 rfl rfl rfl ?_
        refine tq_val (fun _ H => ov_lss rfl rfl rfl) rfl rfl rfl ?_
        refine tq_val (fun _ H => ov_not rfl rfl) rfl rfl rfl ?_
        refine tq_nil ?_
        intro w6 H
        refine hK26 _ _ (TrC.keep [103, 16, 85, 14, 15, 80, 28, 0, 1, 2, 3, 4] ?_)
        show TrC _ _ _ _ [(103, _), (16, _), (85, _), (14, _), (15, _), (80, _), (28, _), (0, _), (1, _), (2, _), (3, _), (4, _)] _ _
        refine tr_cond rfl (fun c103 => ?_) (fun c103 => ?_)
        · skip
          -- region 18: zsortanyfunc.go:415
          refine tr_region ?_
          refine tr_val (ov_move rfl rfl) rfl rfl rfl ?_
          refine tr_val (ov_add rfl rfl rfl (w64 (by omega))) rfl rfl rfl ?_
          refine tr_val (ov_assign rfl rfl) rfl rfl rfl ?_
          skip
          exact tr_nil (hK22 (⟨(i + j) / 2 + 1, j⟩) _ _ (⟨by omega, by omega, by omega, .inr (by rw [show (i + j) / 2 + 1 - 1 = (i + j) / 2 by omega]; exact fun q => c103 (ord_lt.mpr q)), hB, H⟩) (by (dsimp only; omega)) (Sub.cons rfl (Sub.cons rfl (Sub.cons rfl (Sub.cons rfl (Sub.cons rfl (Sub.cons rfl (Sub.cons rfl (Sub.cons rfl (Sub.cons rfl Sub.nil))))))))))
        · skip
          -- region 19: zsortanyfunc.go:417
          refine tr_region ?_
          refine tr_val (ov_move rfl rfl) rfl rfl rfl ?_
          refine tr_val (ov_assign rfl rfl) rfl rfl rfl ?_
          skip
          exact tr_nil (hK22 (⟨i, (i + j) / 2⟩) _ _ (⟨by omega, by omega, by omega, hA, .inr (ord_lt.mp (by omega)), H⟩) (by (dsimp only; omega)) (Sub.cons rfl (Sub.cons rfl (Sub.cons rfl (Sub.cons rfl (Sub.cons rfl (Sub.cons rfl (Sub.cons rfl (Sub.cons rfl (Sub.cons rfl Sub.nil))))))))))
      · skip
        refine tr_exit (hK21 _ _ (TrC.keep [85, 14, 15, 80, 28, 0, 1, 2, 3, 4] ?_))
        show TrC _ _ _ _ [(85, _), (14, _), (15, _), (80, _), (28, _), (0, _), (1, _), (2, _), (3, _), (4, _)] _ _
        refine tr_seq (fun K27 hK27 => ?_)
        refine tr_seq (fun K28 hK28 => ?_)
        -- region 20: zsortanyfunc.go:421
        refine tr_region ?_
        refine tr_val (ov_move rfl rfl) rfl rfl rfl ?_
        refine tr_val (ov_assign rfl rfl) rfl rfl rfl ?_
        refine tr_nil (hK28 _ _ (TrC.keep [17, 85, 14, 15, 80, 28, 0, 1, 2, 3, 4] ?_))
        show TrC _ _ _ _ [(17, _), (85, _), (14, _), (15, _), (80, _), (28, _), (0, _), (1, _), (2, _), (3, _), (4, _)] _ _
        refine tr_block ?_
        refine tr_loop_ (X := Int × List TT) [85, 14, 15, 80, 28, 0, 1, 2, 3, 4] (fun ⟨k, T1⟩ => [(17, .int .i64 k)]) (fun ⟨k, T1⟩ w' => i ≤ k ∧ k ≤ m ∧ Mv a b T T1 ∧ ShR T T1 m k ∧ SH w (vec B c 30 3 encTT T).foot [vec B c 30 3 encTT T1] w') (fun ⟨k, T1⟩ => (k - i).toNat) (⟨m, T⟩) (Sub.cons rfl (Sub.cons rfl (Sub.cons rfl (Sub.cons rfl (Sub.cons rfl (Sub.cons rfl (Sub.cons rfl (Sub.cons rfl (Sub.cons rfl (Sub.cons rfl (Sub.cons rfl Sub.nil))))))))))) (⟨by omega, by omega, Mv.refl _ _ _, shR_start, H⟩) ?_
        rintro ⟨k, T1⟩ w7 ⟨hk0, hk1, hm1, hsh, H⟩ K29 hK29
        have hl1 := hm1.len
        show TrC _ _ _ _ [(17, _), (85, _), (14, _), (15, _), (80, _), (28, _), (0, _), (1, _), (2, _), (3, _), (4, _)] _ _
        refine tr_seq (fun K30 hK30 => ?_)
        refine tr_seq (fun K31 hK31 => ?_)
        -- region 21: zsortanyfunc.go:421
        refine tr_region ?_
        refine tr_val (ov_move rfl rfl) rfl rfl rfl ?_
        refine tr_val (ov_move rfl rfl) rfl rfl rfl ?_
        refine tr_val (ov_gtr rfl rfl rfl) rfl rfl rfl ?_
        refine tr_nil (hK31 _ _ (TrC.keep [110, 17, 85, 14, 15, 80, 28, 0, 1, 2, 3, 4] ?_))
        show TrC _ _ _ _ [(110, _), (17, _), (85, _), (14, _), (15, _), (80, _), (28, _), (0, _), (1, _), (2, _), (3, _), (4, _)] _ _
        refine tr_cond rfl (fun c110 => ?_) (fun c110 => ?_)
        · skip
          refine tr_skip (hK30 _ _ (TrC.keep [110, 17, 85, 14, 15, 80, 28, 0, 1, 2, 3, 4] ?_))
          show TrC _ _ _ _ [(110, _), (17, _), (85, _), (14, _), (15, _), (80, _), (28, _), (0, _), (1, _), (2, _), (3, _), (4, _)] _ _
          refine tr_seq (fun K32 hK32 => ?_)
          refine tr_block ?_
          -- region 23: zsortanyfunc.go:422
          have hsome := rd_some (vec_rd H.get0 lenTT (by decide)) (i := k) (by omega) (by omega)
          refine tr_held (fun _ => True) mixed rfl H ?_
          intro w8 H
          refine th_take 0 rfl (by kernel_rfl) (by kernel_rfl) (by kernel_rfl) (trivial) (fun _ hS => ov_move rfl rfl) rfl rfl rfl ?_
          refine th_take 1 rfl (by kernel_rfl) (by kernel_rfl) (by kernel_rfl) (trivial) (fun _ hS => ov_move rfl rfl) rfl rfl rfl ?_
          refine th_take 2 rfl (by kernel_rfl) (by kernel_rfl) (by kernel_rfl) (trivial) (fun _ hS => ov_move rfl rfl) rfl rfl rfl ?_
          refine th_take 3 rfl (by kernel_rfl) (by kernel_rfl) (by kernel_rfl) (trivial) (fun _ hS => ov_move rfl rfl) rfl rfl rfl ?_
          refine th_take 4 rfl (by kernel_rfl) (by kernel_rfl) (by kernel_rfl) (trivial) (fun _ hS => ov_sub rfl rfl rfl (w64 (by omega))) rfl rfl rfl ?_
          refine th_take 5 rfl (by kernel_rfl) (by kernel_rfl) (by kernel_rfl) (trivial) (fun _ hS => ov_move rfl rfl) rfl rfl rfl ?_
          refine th_take 6 rfl (by kernel_rfl) (by kernel_rfl) (by kernel_rfl) (trivial) (fun _ hS => ov_move rfl rfl) rfl rfl rfl ?_
          refine th_take 7 rfl (by kernel_rfl) (by kernel_rfl) (by kernel_rfl) (trivial) (fun _ hS => ov_sub rfl rfl rfl (w64 (by omega))) rfl rfl rfl ?_
          refine th_take 8 rfl (by kernel_rfl) (by kernel_rfl) (by kernel_rfl) (trivial) (fun _ hS => ov_indexAddr rfl Try.underlying32 (Try.sizeOf30 _) rfl rfl (by omega) (by omega) hsome) rfl rfl rfl ?_
          refine th_take 10 rfl (by kernel_rfl) (by kernel_rfl) (by kernel_rfl) (trivial) (fun _ hS => ov_move rfl rfl) rfl rfl rfl ?_
          refine th_take 11 rfl (by kernel_rfl) (by kernel_rfl) (by kernel_rfl) (trivial) (fun _ hS => ov_move rfl rfl) rfl rfl rfl ?_
          refine th_take 12 rfl (by kernel_rfl) (by kernel_rfl) (by kernel_rfl) (trivial) (fun _ hS => ov_indexAddr rfl Try.underlying32 (Try.sizeOf30 _) rfl rfl (by omega) (by omega) hsome) rfl rfl rfl ?_
          refine th_two 9 13 (by kernel_rfl) ?_ ?_
          · skip
            refine tw_val (ld_TT (vec_rd H.get0 lenTT (by decide)) rfl (Try.isAgg30 _) (Try.sizeOf30 _) rfl (by omega) (by omega)) rfl (trivial) rfl rfl rfl ?_
            refine th_one 13 (by kernel_rfl) ?_
            refine tw_val (ld_TT (vec_rd H.get0 lenTT (by decide)) rfl (Try.isAgg30 _) (Try.sizeOf30 _) rfl (by omega) (by omega)) rfl (trivial) rfl rfl rfl ?_
            refine th_take 14 rfl (by kernel_rfl) (by kernel_rfl) (by kernel_rfl) (trivial) (fun _ hS => ov_indexAddr rfl Try.underlying32 (Try.sizeOf30 _) rfl rfl (by omega) (by omega) hsome) rfl rfl rfl ?_
            refine th_one 15 (by kernel_rfl) ?_
            refine tw_store_vec (i := k) (k := 0) (gt T1 (k - 1)) [.int .u64 (gt T1 (k - 1)).1.id, .int .u64 (gt T1 (k - 1)).1.gen, .int .i64 (gt T1 (k - 1)).1.due] H.get0 lenTT rfl rfl rfl rfl rfl (by omega) (by omega) (Try.sizeOf30 _) (Nat.le_refl _) (List.cons_ne_nil _ _) rfl rfl rfl rfl rfl ?_
            intro w9 U; have H := H.upd0 U; clear U
            refine ⟨trivial, ?_⟩
            refine th_take 16 rfl (by kernel_rfl) (by kernel_rfl) (by kernel_rfl) (trivial) (fun _ hS => ov_indexAddr rfl Try.underlying32 (Try.sizeOf30 _) rfl rfl (by omega) (by omega) hsome) rfl rfl rfl ?_
            refine th_one 17 (by kernel_rfl) ?_
            refine tw_store_vec (i := k - 1) (k := 0) (gt T1 (k)) [.int .u64 (gt T1 (k)).1.id, .int .u64 (gt T1 (k)).1.gen, .int .i64 (gt T1 (k)).1.due] H.get0 lenTT rfl rfl rfl rfl rfl (by omega) (by rw [List.length_set]; omega) (Try.sizeOf30 _) (Nat.le_refl _) (List.cons_ne_nil _ _) rfl rfl rfl rfl rfl ?_
            intro w9 U; have H := H.upd0 U; clear U
            refine ⟨trivial, ?_⟩
            refine th_done (by kernel_rfl) ?_
            refine hK32 _ _ (TrC.keep [110, 17, 85, 14, 15, 80, 28, 0, 1, 2, 3, 4] ?_)
            show TrC _ _ _ _ [(110, _), (17, _), (85, _), (14, _), (15, _), (80, _), (28, _), (0, _), (1, _), (2, _), (3, _), (4, _)] _ _
            -- region 22: zsortanyfunc.go:421
            refine tr_region ?_
            refine tr_val (ov_move rfl rfl) rfl rfl rfl ?_
            refine tr_val (ov_sub rfl rfl rfl (w64 (by omega))) rfl rfl rfl ?_
            refine tr_val (ov_assign rfl rfl) rfl rfl rfl ?_
            skip
            exact tr_nil (hK29 (⟨k - 1, swT T1 k (k - 1)⟩) _ _ (⟨by omega, by omega, hm1.trans (swT_mv ha (by omega) (by omega) (by omega) (by omega) (by omega)), shR_step hsh hl1 (by omega) hk1 (by omega), H⟩) (by (dsimp only; omega)) (Sub.cons rfl (Sub.cons rfl (Sub.cons rfl (Sub.cons rfl (Sub.cons rfl (Sub.cons rfl (Sub.cons rfl (Sub.cons rfl (Sub.cons rfl (Sub.cons rfl (Sub.cons rfl Sub.nil))))))))))))
          · skip
            refine tw_val (ld_TT (vec_rd H.get0 lenTT (by decide)) rfl (Try.isAgg30 _) (Try.sizeOf30 _) rfl (by omega) (by omega)) rfl (trivial) rfl rfl rfl ?_
            refine th_one 9 (by kernel_rfl) ?_
            refine tw_val (ld_TT (vec_rd H.get0 lenTT (by decide)) rfl (Try.isAgg30 _) (Try.sizeOf30 _) rfl (by omega) (by omega)) rfl (trivial) rfl rfl rfl ?_
            refine th_take 14 rfl (by kernel_rfl) (by kernel_rfl) (by kernel_rfl) (trivial) (fun _ hS => ov_indexAddr rfl Try.underlying32 (Try.sizeOf30 _) rfl rfl (by omega) (by omega) hsome) rfl rfl rfl ?_
            refine th_one 15 (by kernel_rfl) ?_
            refine tw_store_vec (i := k) (k := 0) (gt T1 (k - 1)) [.int .u64 (gt T1 (k - 1)).1.id, .int .u64 (gt T1 (k - 1)).1.gen, .int .i64 (gt T1 (k - 1)).1.due] H.get0 lenTT rfl rfl rfl rfl rfl (by omega) (by omega) (Try.sizeOf30 _) (Nat.le_refl _) (List.cons_ne_nil _ _) rfl rfl rfl rfl rfl ?_
            intro w9 U; have H := H.upd0 U; clear U
            refine ⟨trivial, ?_⟩
            refine th_take 16 rfl (by kernel_rfl) (by kernel_rfl) (by kernel_rfl) (trivial) (fun _ hS => ov_indexAddr rfl Try.underlying32 (Try.sizeOf30 _) rfl rfl (by omega) (by omega) hsome) rfl rfl rfl ?_
            refine th_one 17 (by kernel_rfl) ?_
            refine tw_store_vec (i := k - 1) (k := 0) (gt T1 (k)) [.int .u64 (gt T1 (k)).1.id, .int .u64 (gt T1 (k)).1.gen, .int .i64 (gt T1 (k)).1.due] H.get0 lenTT rfl rfl rfl rfl rfl (by omega) (by rw [List.length_set]; omega) (Try.sizeOf30 _) (Nat.le_refl _) (List.cons_ne_nil _ _) rfl rfl rfl rfl rfl ?_
            intro w9 U; have H := H.upd0 U; clear U
            refine ⟨trivial, ?_⟩
            refine th_done (by kernel_rfl) ?_
            refine hK32 _ _ (TrC.keep [110, 17, 85, 14, 15, 80, 28, 0, 1, 2, 3, 4] ?_)
            show TrC _ _ _ _ [(110, _), (17, _), (85, _), (14, _), (15, _), (80, _), (28, _), (0, _), (1, _), (2, _), (3, _), (4, _)] _ _
            -- region 22: zsortanyfunc.go:421
            refine tr_region ?_
            refine tr_val (ov_move rfl rfl) rfl rfl rfl ?_
            refine tr_val (ov_sub rfl rfl rfl (w64 (by omega))) rfl rfl rfl ?_
            refine tr_val (ov_assign rfl rfl) rfl rfl rfl ?_
            skip
            exact tr_nil (hK29 (⟨k - 1, swT T1 k (k - 1)⟩) _ _ (⟨by omega, by omega, hm1.trans (swT_mv ha (by omega) (by omega) (by omega) (by omega) (by omega)), shR_step hsh hl1 (by omega) hk1 (by omega), H⟩) (by (dsimp only; omega)) (Sub.cons rfl (Sub.cons rfl (Sub.cons rfl (Sub.cons rfl (Sub.cons rfl (Sub.cons rfl (Sub.cons rfl (Sub.cons rfl (Sub.cons rfl (Sub.cons rfl (Sub.cons rfl Sub.nil))))))))))))
        · skip
          refine tr_exit (hK27 _ _ (TrC.keep [110, 17, 85, 14, 15, 80, 28, 0, 1, 2, 3, 4] ?_))
          show TrC _ _ _ _ [(110, _), (17, _), (85, _), (14, _), (15, _), (80, _), (28, _), (0, _), (1, _), (2, _), (3, _), (4, _)] _ _
          refine tr_ret (post_ret0 (.inr rfl) rfl  ?_)
          have hki : k = i := by omega
          subst hki
          have hji : j = k := by omega
          subst hji
          have hb' : b = m + 1 := by omega
          subst hb'
          exact ⟨T1, hm1, shR_end hsh ha (by omega) hs1 htg (by omega) (by omega) hA hB, H⟩
    · skip
      refine tr_skip (hK17 _ _ (TrC.keep [80, 28, 0, 1, 2, 3, 4] ?_))
      show TrC _ _ _ _ [(80, _), (28, _), (0, _), (1, _), (2, _), (3, _), (4, _)] _ _
      refine tr_seq (fun K33 hK33 => ?_)
      -- region 24: zsortanyfunc.go:427
      refine tr_region ?_
      refine tr_val (ov_move rfl rfl) rfl rfl rfl ?_
      refine tr_val (ov_move rfl rfl) rfl rfl rfl ?_
      refine tr_val (ov_add rfl rfl rfl (w64 (by omega))) rfl rfl rfl ?_
      refine tr_val (ov_conv rfl Try.underlying3 Try.underlying125 rfl (wu64 (by omega))) rfl rfl rfl ?_
      refine tr_val (ov_shr rfl rfl rfl (by omega) (fdiv_two _)) rfl rfl rfl ?_
      refine tr_val (ov_conv rfl Try.underlying125 Try.underlying3 rfl (w64 (by omega))) rfl rfl rfl ?_
      refine tr_val (ov_assign rfl rfl) rfl rfl rfl ?_
      refine tr_nil (hK33 _ _ (TrC.keep [18, 80, 28, 0, 1, 2, 3, 4] ?_))
      show TrC _ _ _ _ [(18, _), (80, _), (28, _), (0, _), (1, _), (2, _), (3, _), (4, _)] _ _
      refine tr_seq (fun K34 hK34 => ?_)
      -- region 25: zsortanyfunc.go:428
      refine tr_region ?_
      refine tr_val (ov_move rfl rfl) rfl rfl rfl ?_
      refine tr_val (ov_move rfl rfl) rfl rfl rfl ?_
      refine tr_val (ov_add rfl rfl rfl (w64 (by omega))) rfl rfl rfl ?_
      refine tr_val (ov_assign rfl rfl) rfl rfl rfl ?_
      refine tr_nil (hK34 _ _ (TrC.keep [19, 18, 80, 28, 0, 1, 2, 3, 4] ?_))
      show TrC _ _ _ _ [(19, _), (18, _), (80, _), (28, _), (0, _), (1, _), (2, _), (3, _), (4, _)] _ _
      refine tr_seq (fun K35 hK35 => ?_)
      -- region 26: zsortanyfunc.go:429
      refine tr_region ?_
      refine tr_val (ov_assign rfl rfl) rfl rfl rfl ?_
      refine tr_val (ov_assign rfl rfl) rfl rfl rfl ?_
      refine tr_nil (hK35 _ _ (TrC.keep [21, 20, 19, 18, 80, 28, 0, 1, 2, 3, 4] ?_))
      show TrC _ _ _ _ [(21, _), (20, _), (19, _), (18, _), (80, _), (28, _), (0, _), (1, _), (2, _), (3, _), (4, _)] _ _
      refine tr_seq_cut_ [19, 18, 80, 28, 0, 1, 2, 3, 4] [(20, .int .i64 (loV a m b)), (21, .int .i64 (hiV a m b))] (fun w' => SH w (vec B c 30 3 encTT T).foot [vec B c 30 3 encTT T] w') (fun K36 hK36 => ?_) (fun w9 H => ?_)
      · skip
        refine tr_seq (fun K37 hK37 => ?_)
        -- region 27: zsortanyfunc.go:430
        refine tr_region ?_
        refine tr_val (ov_move rfl rfl) rfl rfl rfl ?_
        refine tr_val (ov_move rfl rfl) rfl rfl rfl ?_
        refine tr_val (ov_gtr rfl rfl rfl) rfl rfl rfl ?_
        refine tr_nil (hK37 _ _ (TrC.keep [140, 21, 20, 19, 18, 80, 28, 0, 1, 2, 3, 4] ?_))
        show TrC _ _ _ _ [(140, _), (21, _), (20, _), (19, _), (18, _), (80, _), (28, _), (0, _), (1, _), (2, _), (3, _), (4, _)] _ _
        refine tr_cond rfl (fun c140 => ?_) (fun c140 => ?_)
        · skip
          refine tr_seq (fun K38 hK38 => ?_)
          -- region 28: zsortanyfunc.go:431
          refine tr_region ?_
          refine tr_val (ov_move rfl rfl) rfl rfl rfl ?_
          refine tr_val (ov_move rfl rfl) rfl rfl rfl ?_
          refine tr_val (ov_sub rfl rfl rfl (w64 (by omega))) rfl rfl rfl ?_
          refine tr_val (ov_assign rfl rfl) rfl rfl rfl ?_
          refine tr_nil (hK38 _ _ (TrC.keep [20, 140, 21, 19, 18, 80, 28, 0, 1, 2, 3, 4] ?_))
          show TrC _ _ _ _ [(20, _), (140, _), (21, _), (19, _), (18, _), (80, _), (28, _), (0, _), (1, _), (2, _), (3, _), (4, _)] _ _
          -- region 29: zsortanyfunc.go:432
          refine tr_region ?_
          refine tr_val (ov_move rfl rfl) rfl rfl rfl ?_
          refine tr_val (ov_assign rfl rfl) rfl rfl rfl ?_
          exact tr_nil (hK36 _ _ (Sub.consE rfl (congrArg (Value.int .i64) (by omega)) (Sub.consE rfl (congrArg (Value.int .i64) (by omega)) (Sub.cons rfl (Sub.cons rfl (Sub.cons rfl (Sub.cons rfl (Sub.cons rfl (Sub.cons rfl (Sub.cons rfl (Sub.cons rfl (Sub.cons rfl Sub.nil))))))))))) (H))
        · skip
          refine tr_seq (fun K39 hK39 => ?_)
          -- region 30: zsortanyfunc.go:434
          refine tr_region ?_
          refine tr_val (ov_move rfl rfl) rfl rfl rfl ?_
          refine tr_val (ov_assign rfl rfl) rfl rfl rfl ?_
          refine tr_nil (hK39 _ _ (TrC.keep [20, 140, 21, 19, 18, 80, 28, 0, 1, 2, 3, 4] ?_))
          show TrC _ _ _ _ [(20, _), (140, _), (21, _), (19, _), (18, _), (80, _), (28, _), (0, _), (1, _), (2, _), (3, _), (4, _)] _ _
          -- region 31: zsortanyfunc.go:435
          refine tr_region ?_
          refine tr_val (ov_move rfl rfl) rfl rfl rfl ?_
          refine tr_val (ov_assign rfl rfl) rfl rfl rfl ?_
          exact tr_nil (hK36 _ _ (Sub.consE rfl (congrArg (Value.int .i64) (by omega)) (Sub.consE rfl (congrArg (Value.int .i64) (by omega)) (Sub.cons rfl (Sub.cons rfl (Sub.cons rfl (Sub.cons rfl (Sub.cons rfl (Sub.cons rfl (Sub.cons rfl (Sub.cons rfl (Sub.cons rfl Sub.nil))))))))))) (H))
      · skip
        show TrC _ _ _ _ [(20, _), (21, _), (19, _), (18, _), (80, _), (28, _), (0, _), (1, _), (2, _), (3, _), (4, _)] _ _
        refine tr_seq (fun K40 hK40 => ?_)
        -- region 32: zsortanyfunc.go:437
        refine tr_region ?_
        refine tr_val (ov_move rfl rfl) rfl rfl rfl ?_
        refine tr_val (ov_sub rfl rfl rfl (w64 (by omega))) rfl rfl rfl ?_
        refine tr_val (ov_assign rfl rfl) rfl rfl rfl ?_
        refine tr_nil (hK40 _ _ (TrC.keep [22, 20, 21, 19, 18, 80, 28, 0, 1, 2, 3, 4] ?_))
        show TrC _ _ _ _ [(22, _), (20, _), (21, _), (19, _), (18, _), (80, _), (28, _), (0, _), (1, _), (2, _), (3, _), (4, _)] _ _
        refine tr_seq (fun K41 hK41 => ?_)
        refine tr_block ?_
        refine tr_loop_ (X := Int × Int) [22, 19, 18, 80, 28, 0, 1, 2, 3, 4] (fun ⟨s, r⟩ => [(20, .int .i64 s), (21, .int .i64 r)]) (fun ⟨s, r⟩ w' => loV a m b ≤ s ∧ s ≤ r ∧ r ≤ hiV a m b ∧ (s = loV a m b ∨ ¬ ltT (gt T ((((a + b) / 2) + m - 1) - (s - 1))).1 (gt T (s - 1)).1) ∧ (r = hiV a m b ∨ ltT (gt T ((((a + b) / 2) + m - 1) - r)).1 (gt T r).1) ∧ SH w (vec B c 30 3 encTT T).foot [vec B c 30 3 encTT T] w') (fun ⟨s, r⟩ => (r - s).toNat) (⟨loV a m b, hiV a m b⟩) (Sub.cons rfl (Sub.cons rfl (Sub.cons rfl (Sub.cons rfl (Sub.cons rfl (Sub.cons rfl (Sub.cons rfl (Sub.cons rfl (Sub.cons rfl (Sub.cons rfl (Sub.cons rfl (Sub.cons rfl Sub.nil)))))))))))) (⟨by omega, by omega, by omega, .inl rfl, .inl rfl, H⟩) ?_
        rintro ⟨s, r⟩ w10 ⟨hs0, hsr0, hr1', hA, hB, H⟩ K42 hK42
        show TrC _ _ _ _ [(20, _), (21, _), (22, _), (19, _), (18, _), (80, _), (28, _), (0, _), (1, _), (2, _), (3, _), (4, _)] _ _
        refine tr_seq (fun K43 hK43 => ?_)
        refine tr_seq (fun K44 hK44 => ?_)
        -- region 33: zsortanyfunc.go:439
        refine tr_region ?_
        refine tr_val (ov_move rfl rfl) rfl rfl rfl ?_
        refine tr_val (ov_move rfl rfl) rfl rfl rfl ?_
        refine tr_val (ov_lss rfl rfl rfl) rfl rfl rfl ?_
        refine tr_nil (hK44 _ _ (TrC.keep [151, 20, 21, 22, 19, 18, 80, 28, 0, 1, 2, 3, 4] ?_))
        show TrC _ _ _ _ [(151, _), (20, _), (21, _), (22, _), (19, _), (18, _), (80, _), (28, _), (0, _), (1, _), (2, _), (3, _), (4, _)] _ _
        refine tr_cond rfl (fun c151 => ?_) (fun c151 => ?_)
        · skip
          refine tr_skip (hK43 _ _ (TrC.keep [151, 20, 21, 22, 19, 18, 80, 28, 0, 1, 2, 3, 4] ?_))
          show TrC _ _ _ _ [(151, _), (20, _), (21, _), (22, _), (19, _), (18, _), (80, _), (28, _), (0, _), (1, _), (2, _), (3, _), (4, _)] _ _
          refine tr_block ?_
          refine tr_seq (fun K45 hK45 => ?_)
          -- region 34: zsortanyfunc.go:440
          refine tr_region ?_
          refine tr_val (ov_move rfl rfl) rfl rfl rfl ?_
          refine tr_val (ov_move rfl rfl) rfl rfl rfl ?_
          refine tr_val (ov_add rfl rfl rfl (w64 (by omega))) rfl rfl rfl ?_
          refine tr_val (ov_conv rfl Try.underlying3 Try.underlying125 rfl (wu64 (by omega))) rfl rfl rfl ?_
          refine tr_val (ov_shr rfl rfl rfl (by omega) (fdiv_two _)) rfl rfl rfl ?_
          refine tr_val (ov_conv rfl Try.underlying125 Try.underlying3 rfl (w64 (by omega))) rfl rfl rfl ?_
          refine tr_val (ov_assign rfl rfl) rfl rfl rfl ?_
          refine tr_nil (hK45 _ _ (TrC.keep [23, 151, 20, 21, 22, 19, 18, 80, 28, 0, 1, 2, 3, 4] ?_))
          show TrC _ _ _ _ [(23, _), (151, _), (20, _), (21, _), (22, _), (19, _), (18, _), (80, _), (28, _), (0, _), (1, _), (2, _), (3, _), (4, _)] _ _
          refine tr_seq (fun K46 hK46 => ?_)
          -- region 35: zsortanyfunc.go:441
          refine tr_quiet mixed (by kernel_rfl) H ?_
          refine tq_val (fun _ H => ov_move rfl rfl) rfl rfl rfl ?_
          refine tq_val (fun _ H => ov_move rfl rfl) rfl rfl rfl ?_
          refine tq_val (fun _ H => ov_move rfl rfl) rfl rfl rfl ?_
          refine tq_val (fun _ H => ov_move rfl rfl) rfl rfl rfl ?_
          refine tq_val (fun _ H => ov_sub rfl rfl rfl (w64 (by omega))) rfl rfl rfl ?_
          refine tq_val (fun _ H => ov_indexAddrN (vec_rd H.get0 lenTT (by decide)) (by omega) rfl Try.underlying32 (Try.sizeOf30 _) rfl rfl (by omega) (by omega)) rfl rfl rfl ?_
          refine tq_val (fun _ H => ld_TT (vec_rd H.get0 lenTT (by decide)) rfl (Try.isAgg30 _) (Try.sizeOf30 _) rfl (by omega) (by omega)) rfl rfl rfl ?_
          refine tq_val (fun _ H => ov_move rfl rfl) rfl rfl rfl ?_
          refine tq_val (fun _ H => ov_move rfl rfl) rfl rfl rfl ?_
          refine tq_val (fun _ H => ov_indexAddrN (vec_rd H.get0 lenTT (by decide)) (by omega) rfl Try.underlying32 (Try.sizeOf30 _) rfl rfl (by omega) (by omega)) rfl rfl rfl ?_
          refine tq_val (fun _ H => ld_TT (vec_rd H.get0 lenTT (by decide)) rfl (Try.isAgg30 _) (Try.sizeOf30 _) rfl (by omega) (by omega)) rfl rfl rfl ?_
          refine tq_call (fun _ H => (order_c (gt T ((((a + b) / 2) + m - 1) - (s + r) / 2)).1 (gt T ((s + r) / 2)).1 _).mono (fun _ _ hq => ⟨hq.1, H.call0n hq.2⟩)) rfl rfl rfl Try.call59 rfl rfl rfl ?_
          refine tq_val (fun _ H => ov_lss rfl rfl rfl) rfl rfl rfl ?_
          refine tq_val (fun _ H => ov_not rfl rfl) rfl rfl rfl ?_
          refine tq_nil ?_
          intro w11 H
          refine hK46 _ _ (TrC.keep [171, 23, 151, 20, 21, 22, 19, 18, 80, 28, 0, 1, 2, 3, 4] ?_)
          show TrC _ _ _ _ [(171, _), (23, _), (151, _), (20, _), (21, _), (22, _), (19, _), (18, _), (80, _), (28, _), (0, _), (1, _), (2, _), (3, _), (4, _)] _ _
          refine tr_cond rfl (fun c171 => ?_) (fun c171 => ?_)
          · skip
            -- region 36: zsortanyfunc.go:442
            refine tr_region ?_
            refine tr_val (ov_move rfl rfl) rfl rfl rfl ?_
            refine tr_val (ov_add rfl rfl rfl (w64 (by omega))) rfl rfl rfl ?_
            refine tr_val (ov_assign rfl rfl) rfl rfl rfl ?_
            skip
            exact tr_nil (hK42 (⟨(s + r) / 2 + 1, r⟩) _ _ (⟨by omega, by omega, by omega, .inr (by rw [show (s + r) / 2 + 1 - 1 = (s + r) / 2 by omega]; exact fun q => c171 (ord_lt.mpr q)), hB, H⟩) (by (dsimp only; omega)) (Sub.cons rfl (Sub.cons rfl (Sub.cons rfl (Sub.cons rfl (Sub.cons rfl (Sub.cons rfl (Sub.cons rfl (Sub.cons rfl (Sub.cons rfl (Sub.cons rfl (Sub.cons rfl (Sub.cons rfl Sub.nil)))))))))))))
          · skip
            -- region 37: zsortanyfunc.go:444
            refine tr_region ?_
            refine tr_val (ov_move rfl rfl) rfl rfl rfl ?_
            refine tr_val (ov_assign rfl rfl) rfl rfl rfl ?_
            skip
            exact tr_nil (hK42 (⟨s, (s + r) / 2⟩) _ _ (⟨by omega, by omega, by omega, hA, .inr (ord_lt.mp (by omega)), H⟩) (by (dsimp only; omega)) (Sub.cons rfl (Sub.cons rfl (Sub.cons rfl (Sub.cons rfl (Sub.cons rfl (Sub.cons rfl (Sub.cons rfl (Sub.cons rfl (Sub.cons rfl (Sub.cons rfl (Sub.cons rfl (Sub.cons rfl Sub.nil)))))))))))))
        · skip
          refine tr_exit (hK41 _ _ (TrC.keep [151, 20, 21, 22, 19, 18, 80, 28, 0, 1, 2, 3, 4] ?_))
          show TrC _ _ _ _ [(151, _), (20, _), (21, _), (22, _), (19, _), (18, _), (80, _), (28, _), (0, _), (1, _), (2, _), (3, _), (4, _)] _ _
          refine tr_seq (fun K47 hK47 => ?_)
          -- region 38: zsortanyfunc.go:448
          have hsr : r = s := by omega
          subst hsr
          obtain ⟨e, he⟩ : ∃ e, ((a + b) / 2) + m - r = e := ⟨_, rfl⟩
          have hA' : r = loV a m b ∨ ¬ ltT (gt T e).1 (gt T (r - 1)).1 := by rw [← he, show ((a + b) / 2) + m - r = (((a + b) / 2) + m - 1) - (r - 1) by omega]; exact hA
          have hB' : r = hiV a m b ∨ ltT (gt T (e - 1)).1 (gt T r).1 := by rw [← he, show ((a + b) / 2) + m - r - 1 = (((a + b) / 2) + m - 1) - r by omega]; exact hB
          refine tr_region ?_
          refine tr_val (ov_move rfl rfl) rfl rfl rfl ?_
          refine tr_val (ov_move rfl rfl) rfl rfl rfl ?_
          refine tr_val (ov_eq (ov_sub rfl rfl rfl (w64 (by omega))) (congrArg (Value.int .i64) he)) rfl rfl rfl ?_
          refine tr_val (ov_assign rfl rfl) rfl rfl rfl ?_
          refine tr_nil (hK47 _ _ (TrC.keep [24, 151, 20, 21, 22, 19, 18, 80, 28, 0, 1, 2, 3, 4] ?_))
          show TrC _ _ _ _ [(24, _), (151, _), (20, _), (21, _), (22, _), (19, _), (18, _), (80, _), (28, _), (0, _), (1, _), (2, _), (3, _), (4, _)] _ _
          refine tr_seq_cut_ [24, 151, 20, 21, 22, 19, 18, 80, 28, 0, 1, 2, 3, 4] [] (fun w' => ∃ T1, Mv r e T T1 ∧ (∀ x, r ≤ x → x < e → gt T1 x = rotV T r m e x) ∧ SH w (vec B c 30 3 encTT T).foot [vec B c 30 3 encTT T1] w') (fun K48 hK48 => ?_) (fun w12 HX => ?_)
          · skip
            refine tr_seq (fun K49 hK49 => ?_)
            -- region 39: zsortanyfunc.go:449
            refine tr_region ?_
            refine tr_val (ov_move rfl rfl) rfl rfl rfl ?_
            refine tr_val (ov_move rfl rfl) rfl rfl rfl ?_
            refine tr_val (ov_lss rfl rfl rfl) rfl rfl rfl ?_
            refine tr_val (ov_move rfl rfl) rfl rfl rfl ?_
            refine tr_split (t := 181) rfl (fun s181 => ?_) (fun s181 => ?_)
            · skip
              refine tr_val (ov_move rfl rfl) rfl rfl rfl ?_
              refine tr_val (ov_move rfl rfl) rfl rfl rfl ?_
              refine tr_val (ov_lss rfl rfl rfl) rfl rfl rfl ?_
              refine tr_val (ov_pick (vb := undef) rfl rfl rfl rfl) rfl rfl rfl ?_
              refine tr_nil (hK49 _ _ (TrC.keep [185, 24, 151, 20, 21, 22, 19, 18, 80, 28, 0, 1, 2, 3, 4] ?_))
              show TrC _ _ _ _ [(185, _), (24, _), (151, _), (20, _), (21, _), (22, _), (19, _), (18, _), (80, _), (28, _), (0, _), (1, _), (2, _), (3, _), (4, _)] _ _
              refine tr_cond rfl (fun c185 => ?_) (fun c185 => ?_)
              · skip
                -- region 40: zsortanyfunc.go:450
                refine tr_region ?_
                refine tr_val (ov_move rfl rfl) rfl rfl rfl ?_
                refine tr_val (ov_move rfl rfl) rfl rfl rfl ?_
                refine tr_val (ov_move rfl rfl) rfl rfl rfl ?_
                refine tr_val (ov_move rfl rfl) rfl rfl rfl ?_
                refine tr_val (ov_move rfl rfl) rfl rfl rfl ?_
                refine tr_call (rotate_c B c n T r m e _ H.get0 hn hN (by omega) (by omega) (by omega) (by omega)) rfl rfl rfl Try.call117 rfl rfl rfl ?_
                rintro _ w13 ⟨T1, hm1, hr1, HC⟩
                have H := H.call1 HC
                exact tr_nil (hK48 _ _ (Sub.cons rfl (Sub.cons rfl (Sub.cons rfl (Sub.cons rfl (Sub.cons rfl (Sub.cons rfl (Sub.cons rfl (Sub.cons rfl (Sub.cons rfl (Sub.cons rfl (Sub.cons rfl (Sub.cons rfl (Sub.cons rfl (Sub.cons rfl Sub.nil)))))))))))))) (⟨T1, hm1, hr1, H⟩))
              · skip
                exact tr_skip (hK48 _ _ (Sub.cons rfl (Sub.cons rfl (Sub.cons rfl (Sub.cons rfl (Sub.cons rfl (Sub.cons rfl (Sub.cons rfl (Sub.cons rfl (Sub.cons rfl (Sub.cons rfl (Sub.cons rfl (Sub.cons rfl (Sub.cons rfl (Sub.cons rfl Sub.nil)))))))))))))) (⟨T, Mv.refl _ _ _, fun x h0 h1 => rotV_id (by omega) h0 h1, H⟩))
            · skip
              refine tr_pass rfl rfl rfl ?_
              refine tr_pass rfl rfl rfl ?_
              refine tr_pass rfl rfl rfl ?_
              refine tr_val (ov_pick_f (va := undef) rfl rfl rfl rfl) rfl rfl rfl ?_
              refine tr_nil (hK49 _ _ (TrC.keep [185, 24, 151, 20, 21, 22, 19, 18, 80, 28, 0, 1, 2, 3, 4] ?_))
              show TrC _ _ _ _ [(185, _), (24, _), (151, _), (20, _), (21, _), (22, _), (19, _), (18, _), (80, _), (28, _), (0, _), (1, _), (2, _), (3, _), (4, _)] _ _
              refine tr_cond_f rfl rfl ?_
              exact tr_skip (hK48 _ _ (Sub.cons rfl (Sub.cons rfl (Sub.cons rfl (Sub.cons rfl (Sub.cons rfl (Sub.cons rfl (Sub.cons rfl (Sub.cons rfl (Sub.cons rfl (Sub.cons rfl (Sub.cons rfl (Sub.cons rfl (Sub.cons rfl (Sub.cons rfl Sub.nil)))))))))))))) (⟨T, Mv.refl _ _ _, fun x h0 h1 => rotV_id (by omega) h0 h1, H⟩))
          · skip
            obtain ⟨T1, hm1, hr1, H⟩ := HX
            have hl1 := hm1.len
            have hhv := halves_of (mid := ((a + b) / 2)) (a := a) (b := b) (lo := loV a m b) (hi := hiV a m b) hr1 hm1.out ha (by omega) (by omega) hs1 hs2 htg (by omega) (by omega) (by omega) (by omega) (by omega) (by omega) (by omega) hA' hB'
            show TrC _ _ _ _ [(24, _), (151, _), (20, _), (21, _), (22, _), (19, _), (18, _), (80, _), (28, _), (0, _), (1, _), (2, _), (3, _), (4, _)] _ _
            refine tr_seq_cut_ [24, 151, 20, 21, 22, 19, 18, 80, 28, 0, 1, 2, 3, 4] [] (fun w' => ∃ T2, Mv a ((a + b) / 2) T1 T2 ∧ Srt T2 a ((a + b) / 2) ∧ SH w (vec B c 30 3 encTT T).foot [vec B c 30 3 encTT T2] w') (fun K50 hK50 => ?_) (fun w14 HX => ?_)
            · skip
              refine tr_seq (fun K51 hK51 => ?_)
              -- region 41: zsortanyfunc.go:452
              refine tr_region ?_
              refine tr_val (ov_move rfl rfl) rfl rfl rfl ?_
              refine tr_val (ov_move rfl rfl) rfl rfl rfl ?_
              refine tr_val (ov_lss rfl rfl rfl) rfl rfl rfl ?_
              refine tr_val (ov_move rfl rfl) rfl rfl rfl ?_
              refine tr_split (t := 195) rfl (fun s195 => ?_) (fun s195 => ?_)
              · skip
                refine tr_val (ov_move rfl rfl) rfl rfl rfl ?_
                refine tr_val (ov_move rfl rfl) rfl rfl rfl ?_
                refine tr_val (ov_lss rfl rfl rfl) rfl rfl rfl ?_
                refine tr_val (ov_pick (vb := undef) rfl rfl rfl rfl) rfl rfl rfl ?_
                refine tr_nil (hK51 _ _ (TrC.keep [199, 24, 151, 20, 21, 22, 19, 18, 80, 28, 0, 1, 2, 3, 4] ?_))
                show TrC _ _ _ _ [(199, _), (24, _), (151, _), (20, _), (21, _), (22, _), (19, _), (18, _), (80, _), (28, _), (0, _), (1, _), (2, _), (3, _), (4, _)] _ _
                refine tr_cond rfl (fun c199 => ?_) (fun c199 => ?_)
                · skip
                  -- region 42: zsortanyfunc.go:453
                  refine tr_region ?_
                  refine tr_val (ov_move rfl rfl) rfl rfl rfl ?_
                  refine tr_val (ov_move rfl rfl) rfl rfl rfl ?_
                  refine tr_val (ov_move rfl rfl) rfl rfl rfl ?_
                  refine tr_val (ov_move rfl rfl) rfl rfl rfl ?_
                  refine tr_val (ov_move rfl rfl) rfl rfl rfl ?_
                  refine tr_call (ih T1 a r ((a + b) / 2) _ H.get0 ⟨by omega, ha, by omega, by omega, by omega, hhv.s1, hhv.s2, hhv.t1⟩ (by omega)) rfl rfl rfl Try.call112 rfl rfl rfl ?_
                  rintro _ w15 ⟨T2, hm2, hsm2, HC⟩
                  have H := H.call1 HC
                  exact tr_nil (hK50 _ _ (Sub.cons rfl (Sub.cons rfl (Sub.cons rfl (Sub.cons rfl (Sub.cons rfl (Sub.cons rfl (Sub.cons rfl (Sub.cons rfl (Sub.cons rfl (Sub.cons rfl (Sub.cons rfl (Sub.cons rfl (Sub.cons rfl (Sub.cons rfl Sub.nil)))))))))))))) (⟨T2, hm2, hsm2, H⟩))
                · skip
                  exact tr_skip (hK50 _ _ (Sub.cons rfl (Sub.cons rfl (Sub.cons rfl (Sub.cons rfl (Sub.cons rfl (Sub.cons rfl (Sub.cons rfl (Sub.cons rfl (Sub.cons rfl (Sub.cons rfl (Sub.cons rfl (Sub.cons rfl (Sub.cons rfl (Sub.cons rfl Sub.nil)))))))))))))) (⟨T1, Mv.refl _ _ _, (by rcases (show r = a ∨ r = (a + b) / 2 by omega) with q | q; exact fun x y h0 h1 h2 => hhv.s2 x y (by omega) h1 h2; exact fun x y h0 h1 h2 => hhv.s1 x y h0 h1 (by omega)), H⟩))
              · skip
                refine tr_pass rfl rfl rfl ?_
                refine tr_pass rfl rfl rfl ?_
                refine tr_pass rfl rfl rfl ?_
                refine tr_val (ov_pick_f (va := undef) rfl rfl rfl rfl) rfl rfl rfl ?_
                refine tr_nil (hK51 _ _ (TrC.keep [199, 24, 151, 20, 21, 22, 19, 18, 80, 28, 0, 1, 2, 3, 4] ?_))
                show TrC _ _ _ _ [(199, _), (24, _), (151, _), (20, _), (21, _), (22, _), (19, _), (18, _), (80, _), (28, _), (0, _), (1, _), (2, _), (3, _), (4, _)] _ _
                refine tr_cond_f rfl rfl ?_
                exact tr_skip (hK50 _ _ (Sub.cons rfl (Sub.cons rfl (Sub.cons rfl (Sub.cons rfl (Sub.cons rfl (Sub.cons rfl (Sub.cons rfl (Sub.cons rfl (Sub.cons rfl (Sub.cons rfl (Sub.cons rfl (Sub.cons rfl (Sub.cons rfl (Sub.cons rfl Sub.nil)))))))))))))) (⟨T1, Mv.refl _ _ _, (by rcases (show r = a ∨ r = (a + b) / 2 by omega) with q | q; exact fun x y h0 h1 h2 => hhv.s2 x y (by omega) h1 h2; exact fun x y h0 h1 h2 => hhv.s1 x y h0 h1 (by omega)), H⟩))
            · skip
              obtain ⟨T2, hm2, hsm2, H⟩ := HX
              have hl2 := hm2.len
              have hh3 : Srt T2 ((a + b) / 2) e := fun x y q0 q1 q2 => by rw [hm2.out x (by omega) (.inr q0), hm2.out y (by omega) (.inr (by omega))]; exact hhv.s3 x y q0 q1 q2
              have hh4 : Srt T2 e b := fun x y q0 q1 q2 => by rw [hm2.out x (by omega) (.inr (by omega)), hm2.out y (by omega) (.inr (by omega))]; exact hhv.s4 x y q0 q1 q2
              have hh5 : Tg T2 ((a + b) / 2) e b := fun x y q0 q1 q2 q3 => by rw [hm2.out x (by omega) (.inr q0), hm2.out y (by omega) (.inr (by omega))]; exact hhv.t2 x y q0 q1 q2 q3
              have hmm := (hm1.mono (a := a) (b := b) ha (by omega) (by omega)).trans (hm2.mono (a := a) (b := b) ha (by omega) (by omega))
              show TrC _ _ _ _ [(24, _), (151, _), (20, _), (21, _), (22, _), (19, _), (18, _), (80, _), (28, _), (0, _), (1, _), (2, _), (3, _), (4, _)] _ _
              refine tr_seq (fun K52 hK52 => ?_)
              -- region 43: zsortanyfunc.go:455
              refine tr_region ?_
              refine tr_val (ov_move rfl rfl) rfl rfl rfl ?_
              refine tr_val (ov_move rfl rfl) rfl rfl rfl ?_
              refine tr_val (ov_lss rfl rfl rfl) rfl rfl rfl ?_
              refine tr_val (ov_move rfl rfl) rfl rfl rfl ?_
              refine tr_split (t := 209) rfl (fun s209 => ?_) (fun s209 => ?_)
              · skip
                refine tr_val (ov_move rfl rfl) rfl rfl rfl ?_
                refine tr_val (ov_move rfl rfl) rfl rfl rfl ?_
                refine tr_val (ov_lss rfl rfl rfl) rfl rfl rfl ?_
                refine tr_val (ov_pick (vb := undef) rfl rfl rfl rfl) rfl rfl rfl ?_
                refine tr_nil (hK52 _ _ (TrC.keep [213, 24, 151, 20, 21, 22, 19, 18, 80, 28, 0, 1, 2, 3, 4] ?_))
                show TrC _ _ _ _ [(213, _), (24, _), (151, _), (20, _), (21, _), (22, _), (19, _), (18, _), (80, _), (28, _), (0, _), (1, _), (2, _), (3, _), (4, _)] _ _
                refine tr_cond rfl (fun c213 => ?_) (fun c213 => ?_)
                · skip
                  -- region 44: zsortanyfunc.go:456
                  refine tr_region ?_
                  refine tr_val (ov_move rfl rfl) rfl rfl rfl ?_
                  refine tr_val (ov_move rfl rfl) rfl rfl rfl ?_
                  refine tr_val (ov_move rfl rfl) rfl rfl rfl ?_
                  refine tr_val (ov_move rfl rfl) rfl rfl rfl ?_
                  refine tr_val (ov_move rfl rfl) rfl rfl rfl ?_
                  refine tr_call (ih T2 ((a + b) / 2) e b _ H.get0 ⟨by omega, by omega, by omega, by omega, by omega, hh3, hh4, hh5⟩ (by omega)) rfl rfl rfl Try.call112 rfl rfl rfl ?_
                  rintro _ w16 ⟨T3, hm3, hsm3, HC⟩
                  have H := H.call1 HC
                  refine tr_nil (post_ret0 (.inl rfl) rfl  ?_)
                  exact ⟨T3, hmm.trans (hm3.mono (a := a) (b := b) ha (by omega) (by omega)), halves_end hhv ha (by omega) (by omega) hm2 hm3 hsm2 hsm3, H⟩
                · skip
                  refine tr_skip (post_ret0 (.inl rfl) rfl  ?_)
                  refine ⟨T2, hmm, halves_end hhv ha (by omega) (by omega) hm2 (Mv.refl _ _ _) hsm2 ?_, H⟩
                  rcases (show e = (a + b) / 2 ∨ e = b by omega) with q | q
                  · exact fun x y h0 h1 h2 => hh4 x y (by omega) h1 h2
                  · exact fun x y h0 h1 h2 => hh3 x y h0 h1 (by omega)
              · skip
                refine tr_pass rfl rfl rfl ?_
                refine tr_pass rfl rfl rfl ?_
                refine tr_pass rfl rfl rfl ?_
                refine tr_val (ov_pick_f (va := undef) rfl rfl rfl rfl) rfl rfl rfl ?_
                refine tr_nil (hK52 _ _ (TrC.keep [213, 24, 151, 20, 21, 22, 19, 18, 80, 28, 0, 1, 2, 3, 4] ?_))
                show TrC _ _ _ _ [(213, _), (24, _), (151, _), (20, _), (21, _), (22, _), (19, _), (18, _), (80, _), (28, _), (0, _), (1, _), (2, _), (3, _), (4, _)] _ _
                refine tr_cond_f rfl rfl ?_
                refine tr_skip (post_ret0 (.inl rfl) rfl  ?_)
                refine ⟨T2, hmm, halves_end hhv ha (by omega) (by omega) hm2 (Mv.refl _ _ _) hsm2 ?_, H⟩
                rcases (show e = (a + b) / 2 ∨ e = b by omega) with q | q
                · exact fun x y h0 h1 h2 => hh4 x y (by omega) h1 h2
                · exact fun x y h0 h1 h2 => hh3 x y h0 h1 (by omega)

theorem symMerge_c : ∀ (k : Nat) (B : Option Addr) (c n : Nat) (T : List TT) (a m b : Int) (w : World), (vec B c 30 3 encTT T).holds w → n ≤ 4294967296 → SymPre n T a m b → (b - a).toNat ≤ k → SymDoes B c n T a m b w
  | 0, B, c, n, T, a, m, b, w, hV, hN, hp, hk => by obtain ⟨_, _, h1, h2, _⟩ := hp; omega
  | k + 1, B, c, n, T, a, m, b, w, hV, hN, hp, hk => symMerge_step B c n T a m b w (fun T' a' m' b' w' hV' hp' hlt => symMerge_c k B c n T' a' m' b' w' hV' hN hp' (by omega)) hV hN hp

/-! slices.stableCmpFunc[curfew/slots.Thing] -/
set_option maxRecDepth 20000 in
theorem stable_c (B : Option Addr) (c n : Nat) (T : List TT) (w : World) (hV : (vec B c 30 3 encTT T).holds w) (hn : T.length = n) (hN : n ≤ 4294967296) (hf : Fresh T 0 n) : Does Try.prog 97 #[.slice B n c, .int .i64 n, .func (.func 59) #[] #[]] w (fun v w' => ∃ T', Mv 0 n T T' ∧ Srt T' 0 n ∧ SH w (vec B c 30 3 encTT T).foot [vec B c 30 3 encTT T'] w') := by
  refine does_enter3 Try.func97 rfl Try.ntmps97 rfl ?_
  have H := SH.own1 hV
  refine tr_seq (fun K1 hK1 => ?_)
  -- region 0: zsortanyfunc.go:336
  refine tr_region ?_
  refine tr_val (ov_assign rfl rfl) rfl rfl rfl ?_
  refine tr_nil (hK1 _ _ (TrC.keep [6, 0, 1, 2] ?_))
  show TrC _ _ _ _ [(6, _), (0, _), (1, _), (2, _)] _ _
  refine tr_seq (fun K2 hK2 => ?_)
  -- region 1: zsortanyfunc.go:337
  refine tr_region ?_
  refine tr_val (ov_move rfl rfl) rfl rfl rfl ?_
  refine tr_val (ov_assign rfl rfl) rfl rfl rfl ?_
  refine tr_val (ov_assign rfl rfl) rfl rfl rfl ?_
  refine tr_nil (hK2 _ _ (TrC.keep [8, 7, 6, 0, 1, 2] ?_))
  show TrC _ _ _ _ [(8, _), (7, _), (6, _), (0, _), (1, _), (2, _)] _ _
  refine tr_seq (fun K3 hK3 => ?_)
  refine tr_block ?_
  refine tr_loop_ (X := Int × List TT) [6, 0, 1, 2] (fun ⟨a, T1⟩ => [(7, .int .i64 a), (8, .int .i64 (a + 20))]) (fun ⟨a, T1⟩ w' => 0 ≤ a ∧ a ≤ n ∧ a % 20 = 0 ∧ Mv 0 n T T1 ∧ Blk 20 0 a T1 ∧ Fresh T1 a n ∧ SH w (vec B c 30 3 encTT T).foot [vec B c 30 3 encTT T1] w') (fun ⟨a, T1⟩ => (n - a).toNat) (⟨0, T⟩) (Sub.cons rfl (Sub.cons rfl (Sub.cons rfl (Sub.cons rfl (Sub.cons rfl (Sub.cons rfl Sub.nil)))))) (⟨by omega, by omega, by omega, Mv.refl _ _ _, blk_nil, hf, H⟩) ?_
  rintro ⟨a, T1⟩ w1 ⟨ha0, han, ha20, hm1, hbk, hfr, H⟩ K4 hK4
  have hl1 := hm1.len
  show TrC _ _ _ _ [(7, _), (8, _), (6, _), (0, _), (1, _), (2, _)] _ _
  refine tr_seq (fun K5 hK5 => ?_)
  refine tr_seq (fun K6 hK6 => ?_)
  -- region 2: zsortanyfunc.go:338
  refine tr_region ?_
  refine tr_val (ov_move rfl rfl) rfl rfl rfl ?_
  refine tr_val (ov_move rfl rfl) rfl rfl rfl ?_
  refine tr_val (ov_leq rfl rfl rfl) rfl rfl rfl ?_
  refine tr_nil (hK6 _ _ (TrC.keep [13, 7, 8, 6, 0, 1, 2] ?_))
  show TrC _ _ _ _ [(13, _), (7, _), (8, _), (6, _), (0, _), (1, _), (2, _)] _ _
  refine tr_cond rfl (fun c13 => ?_) (fun c13 => ?_)
  · skip
    refine tr_skip (hK5 _ _ (TrC.keep [13, 7, 8, 6, 0, 1, 2] ?_))
    show TrC _ _ _ _ [(13, _), (7, _), (8, _), (6, _), (0, _), (1, _), (2, _)] _ _
    refine tr_block ?_
    refine tr_seq (fun K7 hK7 => ?_)
    -- region 3: zsortanyfunc.go:339
    refine tr_region ?_
    refine tr_val (ov_move rfl rfl) rfl rfl rfl ?_
    refine tr_val (ov_move rfl rfl) rfl rfl rfl ?_
    refine tr_val (ov_move rfl rfl) rfl rfl rfl ?_
    refine tr_val (ov_move rfl rfl) rfl rfl rfl ?_
    refine tr_call (insertion_c B c n T1 a (a + 20) _ H.get0 (by omega) hN (by omega) (by omega) (by omega) (fun x q0 q1 => hfr x q0 (by omega))) rfl rfl rfl Try.call111 rfl rfl rfl ?_
    rintro _ w2 ⟨T2, hm2, hs2, HC⟩
    have H := H.call1 HC
    refine tr_nil (hK7 _ _ (TrC.keep [13, 7, 8, 6, 0, 1, 2] ?_))
    show TrC _ _ _ _ [(13, _), (7, _), (8, _), (6, _), (0, _), (1, _), (2, _)] _ _
    refine tr_seq (fun K8 hK8 => ?_)
    -- region 4: zsortanyfunc.go:340
    refine tr_region ?_
    refine tr_val (ov_move rfl rfl) rfl rfl rfl ?_
    refine tr_val (ov_assign rfl rfl) rfl rfl rfl ?_
    refine tr_nil (hK8 _ _ (TrC.keep [7, 13, 8, 6, 0, 1, 2] ?_))
    show TrC _ _ _ _ [(7, _), (13, _), (8, _), (6, _), (0, _), (1, _), (2, _)] _ _
    -- region 5: zsortanyfunc.go:341
    refine tr_region ?_
    refine tr_val (ov_move rfl rfl) rfl rfl rfl ?_
    refine tr_val (ov_move rfl rfl) rfl rfl rfl ?_
    refine tr_val (ov_add rfl rfl rfl (w64 (by omega))) rfl rfl rfl ?_
    refine tr_val (ov_assign rfl rfl) rfl rfl rfl ?_
    skip
    exact tr_nil (hK4 (⟨a + 20, T2⟩) _ _ (⟨by omega, by omega, by omega, hm1.trans (hm2.mono (by omega) (by omega) (by omega)), blk_add (by omega) hbk ha20 ha0 (by omega) (by omega) hm2 hs2 (fun x q0 q1 => by rw [hfr x q0 (by omega)]; exact div_same (by omega) ha20 q0 (by omega)), Fresh.out (fun x q0 q1 => hfr x (by omega) q1) (by omega) hm2 (.inl (by omega)), H⟩) (by (dsimp only; omega)) (Sub.cons rfl (Sub.cons rfl (Sub.cons rfl (Sub.cons rfl (Sub.cons rfl (Sub.cons rfl Sub.nil)))))))
  · skip
    refine tr_exit (hK3 _ _ (TrC.keep [13, 7, 8, 6, 0, 1, 2] ?_))
    show TrC _ _ _ _ [(13, _), (7, _), (8, _), (6, _), (0, _), (1, _), (2, _)] _ _
    refine tr_seq (fun K9 hK9 => ?_)
    -- region 6: zsortanyfunc.go:343
    refine tr_region ?_
    refine tr_val (ov_move rfl rfl) rfl rfl rfl ?_
    refine tr_val (ov_move rfl rfl) rfl rfl rfl ?_
    refine tr_val (ov_move rfl rfl) rfl rfl rfl ?_
    refine tr_val (ov_move rfl rfl) rfl rfl rfl ?_
    refine tr_call (insertion_c B c n T1 a n _ H.get0 (by omega) hN (by omega) (by omega) (by omega) hfr) rfl rfl rfl Try.call111 rfl rfl rfl ?_
    rintro _ w3 ⟨T2, hm2, hs2, HC⟩
    have H := H.call1 HC
    have hb20 := blk_add (by omega) hbk ha20 ha0 (by omega) (by omega) hm2 hs2 (fun x q0 q1 => by rw [hfr x q0 q1]; exact div_same (by omega) ha20 q0 (by omega))
    have hmv20 := hm1.trans (hm2.mono (a := 0) (b := n) (by omega) (by omega) (by omega))
    refine tr_nil (hK9 _ _ (TrC.keep [13, 7, 8, 6, 0, 1, 2] ?_))
    show TrC _ _ _ _ [(13, _), (7, _), (8, _), (6, _), (0, _), (1, _), (2, _)] _ _
    refine tr_block ?_
    refine tr_loop_ (X := Int × List TT) [13, 0, 1, 2] (fun ⟨d, T1⟩ => [(6, .int .i64 d)]) (fun ⟨d, T1⟩ w' => 0 < d ∧ d ≤ 20 + 2 * n ∧ Mv 0 n T T1 ∧ Blk d 0 n T1 ∧ SH w (vec B c 30 3 encTT T).foot [vec B c 30 3 encTT T1] w') (fun ⟨d, T1⟩ => (n - d).toNat) (⟨20, T2⟩) (Sub.cons rfl (Sub.cons rfl (Sub.cons rfl (Sub.cons rfl (Sub.cons rfl Sub.nil))))) (⟨by omega, by omega, hmv20, hb20, H⟩) ?_
    rintro ⟨d, T1⟩ w4 ⟨hd0, hd1, hm1, hbk, H⟩ K10 hK10
    have hl1 := hm1.len
    show TrC _ _ _ _ [(6, _), (13, _), (0, _), (1, _), (2, _)] _ _
    refine tr_seq (fun K11 hK11 => ?_)
    refine tr_seq (fun K12 hK12 => ?_)
    -- region 7: zsortanyfunc.go:345
    refine tr_region ?_
    refine tr_val (ov_move rfl rfl) rfl rfl rfl ?_
    refine tr_val (ov_move rfl rfl) rfl rfl rfl ?_
    refine tr_val (ov_lss rfl rfl rfl) rfl rfl rfl ?_
    refine tr_nil (hK12 _ _ (TrC.keep [30, 6, 13, 0, 1, 2] ?_))
    show TrC _ _ _ _ [(30, _), (6, _), (13, _), (0, _), (1, _), (2, _)] _ _
    refine tr_cond rfl (fun c30 => ?_) (fun c30 => ?_)
    · skip
      refine tr_skip (hK11 _ _ (TrC.keep [30, 6, 13, 0, 1, 2] ?_))
      show TrC _ _ _ _ [(30, _), (6, _), (13, _), (0, _), (1, _), (2, _)] _ _
      refine tr_block ?_
      refine tr_seq (fun K13 hK13 => ?_)
      -- region 8: zsortanyfunc.go:346
      refine tr_region ?_
      refine tr_val (ov_move rfl rfl) rfl rfl rfl ?_
      refine tr_val (ov_mul rfl rfl rfl (w64 (by omega))) rfl rfl rfl ?_
      refine tr_val (ov_assign rfl rfl) rfl rfl rfl ?_
      refine tr_val (ov_assign rfl rfl) rfl rfl rfl ?_
      refine tr_nil (hK13 _ _ (TrC.keep [8, 7, 30, 6, 13, 0, 1, 2] ?_))
      show TrC _ _ _ _ [(8, _), (7, _), (30, _), (6, _), (13, _), (0, _), (1, _), (2, _)] _ _
      refine tr_seq (fun K14 hK14 => ?_)
      refine tr_block ?_
      refine tr_loop_ (X := Int × List TT) [30, 6, 13, 0, 1, 2] (fun ⟨a, T2⟩ => [(7, .int .i64 a), (8, .int .i64 (a + 2 * d))]) (fun ⟨a, T2⟩ w' => 0 ≤ a ∧ a ≤ n ∧ a % (2 * d) = 0 ∧ Mv 0 n T T2 ∧ Blk (2 * d) 0 a T2 ∧ Blk d a n T2 ∧ SH w (vec B c 30 3 encTT T).foot [vec B c 30 3 encTT T2] w') (fun ⟨a, T2⟩ => (n - a).toNat) (⟨0, T1⟩) (Sub.cons rfl (Sub.consE rfl (congrArg (Value.int .i64) (by omega)) (Sub.cons rfl (Sub.cons rfl (Sub.cons rfl (Sub.cons rfl (Sub.cons rfl (Sub.cons rfl Sub.nil)))))))) (⟨by omega, by omega, by simp, hm1, blk_nil, hbk, H⟩) ?_
      rintro ⟨a, T2⟩ w5 ⟨ha0, han, had, hm2, hdone, hrest, H⟩ K15 hK15
      have hl2 := hm2.len
      show TrC _ _ _ _ [(7, _), (8, _), (30, _), (6, _), (13, _), (0, _), (1, _), (2, _)] _ _
      refine tr_seq (fun K16 hK16 => ?_)
      refine tr_seq (fun K17 hK17 => ?_)
      -- region 9: zsortanyfunc.go:347
      refine tr_region ?_
      refine tr_val (ov_move rfl rfl) rfl rfl rfl ?_
      refine tr_val (ov_move rfl rfl) rfl rfl rfl ?_
      refine tr_val (ov_leq rfl rfl rfl) rfl rfl rfl ?_
      refine tr_nil (hK17 _ _ (TrC.keep [35, 7, 8, 30, 6, 13, 0, 1, 2] ?_))
      show TrC _ _ _ _ [(35, _), (7, _), (8, _), (30, _), (6, _), (13, _), (0, _), (1, _), (2, _)] _ _
      refine tr_cond rfl (fun c35 => ?_) (fun c35 => ?_)
      · skip
        refine tr_skip (hK16 _ _ (TrC.keep [35, 7, 8, 30, 6, 13, 0, 1, 2] ?_))
        show TrC _ _ _ _ [(35, _), (7, _), (8, _), (30, _), (6, _), (13, _), (0, _), (1, _), (2, _)] _ _
        refine tr_block ?_
        refine tr_seq (fun K18 hK18 => ?_)
        -- region 10: zsortanyfunc.go:348
        obtain ⟨htg, htin, hma, hmb⟩ := hrest.pair (b := a + 2 * d) hd0 had (by omega) (by omega) (by omega)
        refine tr_region ?_
        refine tr_val (ov_move rfl rfl) rfl rfl rfl ?_
        refine tr_val (ov_move rfl rfl) rfl rfl rfl ?_
        refine tr_val (ov_move rfl rfl) rfl rfl rfl ?_
        refine tr_val (ov_move rfl rfl) rfl rfl rfl ?_
        refine tr_val (ov_add rfl rfl rfl (w64 (by omega))) rfl rfl rfl ?_
        refine tr_val (ov_move rfl rfl) rfl rfl rfl ?_
        refine tr_val (ov_move rfl rfl) rfl rfl rfl ?_
        refine tr_call (symMerge_c _ B c n T2 (a) (a + d) (a + 2 * d) _ H.get0 hN ⟨by omega, ha0, by omega, by omega, by omega, hrest.seg hd0 hma (by omega) (by omega) (by omega), hrest.seg hd0 hmb (by omega) (by omega) (by omega), htg⟩ (Nat.le_refl _)) rfl rfl rfl Try.call112 rfl rfl rfl ?_
        rintro _ w6 ⟨T3, hm3, hsm3, HC⟩
        have H := H.call1 HC
        refine tr_nil (hK18 _ _ (TrC.keep [35, 7, 8, 30, 6, 13, 0, 1, 2] ?_))
        show TrC _ _ _ _ [(35, _), (7, _), (8, _), (30, _), (6, _), (13, _), (0, _), (1, _), (2, _)] _ _
        refine tr_seq (fun K19 hK19 => ?_)
        -- region 11: zsortanyfunc.go:349
        refine tr_region ?_
        refine tr_val (ov_move rfl rfl) rfl rfl rfl ?_
        refine tr_val (ov_assign rfl rfl) rfl rfl rfl ?_
        refine tr_nil (hK19 _ _ (TrC.keep [7, 35, 8, 30, 6, 13, 0, 1, 2] ?_))
        show TrC _ _ _ _ [(7, _), (35, _), (8, _), (30, _), (6, _), (13, _), (0, _), (1, _), (2, _)] _ _
        -- region 12: zsortanyfunc.go:350
        refine tr_region ?_
        refine tr_val (ov_move rfl rfl) rfl rfl rfl ?_
        refine tr_val (ov_move rfl rfl) rfl rfl rfl ?_
        refine tr_val (ov_mul rfl rfl rfl (w64 (by omega))) rfl rfl rfl ?_
        refine tr_val (ov_add rfl rfl rfl (w64 (by omega))) rfl rfl rfl ?_
        refine tr_val (ov_assign rfl rfl) rfl rfl rfl ?_
        skip
        exact tr_nil (hK15 (⟨a + 2 * d, T3⟩) _ _ (⟨by omega, by omega, add_mod_self _ _ had, hm2.trans (hm3.mono (by omega) (by omega) (by omega)), blk_add (by omega) hdone had ha0 (by omega) (by omega) hm3 hsm3 htin, (hrest.mono (lo' := a + 2 * d) (by omega) (by omega)).out (by omega) hm3 (.inl (by omega)), H⟩) (by (dsimp only; omega)) (Sub.cons rfl (Sub.cons rfl (Sub.cons rfl (Sub.cons rfl (Sub.cons rfl (Sub.cons rfl (Sub.cons rfl (Sub.cons rfl Sub.nil)))))))))
      · skip
        refine tr_exit (hK14 _ _ (TrC.keep [35, 7, 8, 30, 6, 13, 0, 1, 2] ?_))
        show TrC _ _ _ _ [(35, _), (7, _), (8, _), (30, _), (6, _), (13, _), (0, _), (1, _), (2, _)] _ _
        refine tr_seq (fun K20 hK20 => ?_)
        refine tr_seq (fun K21 hK21 => ?_)
        -- region 13: zsortanyfunc.go:352
        refine tr_region ?_
        refine tr_val (ov_move rfl rfl) rfl rfl rfl ?_
        refine tr_val (ov_move rfl rfl) rfl rfl rfl ?_
        refine tr_val (ov_add rfl rfl rfl (w64 (by omega))) rfl rfl rfl ?_
        refine tr_val (ov_assign rfl rfl) rfl rfl rfl ?_
        refine tr_nil (hK21 _ _ (TrC.keep [9, 35, 7, 8, 30, 6, 13, 0, 1, 2] ?_))
        show TrC _ _ _ _ [(9, _), (35, _), (7, _), (8, _), (30, _), (6, _), (13, _), (0, _), (1, _), (2, _)] _ _
        refine tr_seq (fun K22 hK22 => ?_)
        -- region 14: zsortanyfunc.go:352
        refine tr_region ?_
        refine tr_val (ov_move rfl rfl) rfl rfl rfl ?_
        refine tr_val (ov_move rfl rfl) rfl rfl rfl ?_
        refine tr_val (ov_lss rfl rfl rfl) rfl rfl rfl ?_
        refine tr_nil (hK22 _ _ (TrC.keep [54, 9, 35, 7, 8, 30, 6, 13, 0, 1, 2] ?_))
        show TrC _ _ _ _ [(54, _), (9, _), (35, _), (7, _), (8, _), (30, _), (6, _), (13, _), (0, _), (1, _), (2, _)] _ _
        refine tr_cond rfl (fun c54 => ?_) (fun c54 => ?_)
        · skip
          -- region 15: zsortanyfunc.go:353
          obtain ⟨htg, htin, hma, hmb⟩ := hrest.pair (b := n) hd0 had (by omega) (by omega) (by omega)
          refine tr_region ?_
          refine tr_val (ov_move rfl rfl) rfl rfl rfl ?_
          refine tr_val (ov_move rfl rfl) rfl rfl rfl ?_
          refine tr_val (ov_move rfl rfl) rfl rfl rfl ?_
          refine tr_val (ov_move rfl rfl) rfl rfl rfl ?_
          refine tr_val (ov_move rfl rfl) rfl rfl rfl ?_
          refine tr_call (symMerge_c _ B c n T2 (a) (a + d) (n) _ H.get0 hN ⟨by omega, ha0, by omega, by omega, by omega, hrest.seg hd0 hma (by omega) (by omega) (by omega), hrest.seg hd0 hmb (by omega) (by omega) (by omega), htg⟩ (Nat.le_refl _)) rfl rfl rfl Try.call112 rfl rfl rfl ?_
          rintro _ w7 ⟨T3, hm3, hsm3, HC⟩
          have H := H.call1 HC
          refine tr_nil (hK20 _ _ (TrC.keep [54, 9, 35, 7, 8, 30, 6, 13, 0, 1, 2] ?_))
          show TrC _ _ _ _ [(54, _), (9, _), (35, _), (7, _), (8, _), (30, _), (6, _), (13, _), (0, _), (1, _), (2, _)] _ _
          -- region 16: zsortanyfunc.go:355
          refine tr_region ?_
          refine tr_val (ov_move rfl rfl) rfl rfl rfl ?_
          refine tr_val (ov_mul rfl rfl rfl (w64 (by omega))) rfl rfl rfl ?_
          refine tr_val (ov_assign rfl rfl) rfl rfl rfl ?_
          skip
          exact tr_nil (hK10 (⟨2 * d, T3⟩) _ _ (⟨by omega, by omega, hm2.trans (hm3.mono (by omega) (by omega) (by omega)), blk_add (by omega) hdone had ha0 (by omega) (by omega) hm3 hsm3 htin, H⟩) (by (dsimp only; omega)) (Sub.consE rfl (congrArg (Value.int .i64) (by omega)) (Sub.cons rfl (Sub.cons rfl (Sub.cons rfl (Sub.cons rfl Sub.nil))))))
        · skip
          refine tr_skip (hK20 _ _ (TrC.keep [54, 9, 35, 7, 8, 30, 6, 13, 0, 1, 2] ?_))
          show TrC _ _ _ _ [(54, _), (9, _), (35, _), (7, _), (8, _), (30, _), (6, _), (13, _), (0, _), (1, _), (2, _)] _ _
          -- region 16: zsortanyfunc.go:355
          refine tr_region ?_
          refine tr_val (ov_move rfl rfl) rfl rfl rfl ?_
          refine tr_val (ov_mul rfl rfl rfl (w64 (by omega))) rfl rfl rfl ?_
          refine tr_val (ov_assign rfl rfl) rfl rfl rfl ?_
          obtain ⟨hal1, hal2⟩ := hrest.alone hd0 had (by omega)
          exact tr_nil (hK10 (⟨2 * d, T2⟩) _ _ (⟨by omega, by omega, hm2, blk_add (by omega) hdone had ha0 (by omega) (by omega) (Mv.refl a n T2) hal1 hal2, H⟩) (by (dsimp only; omega)) (Sub.consE rfl (congrArg (Value.int .i64) (by omega)) (Sub.cons rfl (Sub.cons rfl (Sub.cons rfl (Sub.cons rfl Sub.nil))))))
    · skip
      refine tr_exit (post_ret0 (.inl rfl) rfl  ?_)
      exact ⟨T1, hm1, hbk.whole (by omega) hd0, H⟩

/-! slices.SortStableFunc[[]curfew/slots.Thing,curfew/slots.Thing] -/
set_option maxRecDepth 20000 in
theorem SortStable_t (B : Option Addr) (c n : Nat) (T : List TT) (w : World) (hV : (vec B c 30 3 encTT T).holds w) (hn : T.length = n) (hN : n ≤ 4294967296) (hf : Fresh T 0 n) : Does Try.prog 58 #[.slice B n c, .func (.func 59) #[] #[]] w (fun v w' => ∃ T', Mv 0 n T T' ∧ Srt T' 0 n ∧ SH w (vec B c 30 3 encTT T).foot [vec B c 30 3 encTT T'] w') := by
  refine does_enter2 Try.func58 rfl Try.ntmps58 rfl ?_
  have H := SH.own1 hV
  -- region 0: sort.go:38
  refine tr_region ?_
  refine tr_val (ov_move rfl rfl) rfl rfl rfl ?_
  refine tr_val (ov_move rfl rfl) rfl rfl rfl ?_
  refine tr_val (ov_len rfl rfl Try.underlying32 rfl) rfl rfl rfl ?_
  refine tr_val (ov_move rfl rfl) rfl rfl rfl ?_
  refine tr_call (stable_c B c n T _ H.get0 hn hN hf) rfl rfl rfl Try.call97 rfl rfl rfl ?_
  rintro _ w1 ⟨T2, hm2, hs2, HC⟩
  have H := H.call1 HC
  refine tr_nil (post_ret0 (.inl rfl) rfl  ?_)
  exact ⟨T2, hm2, hs2, H⟩

/-! curfew/slots.Sort -/
set_option maxRecDepth 20000 in
theorem Sort_t (B : Option Addr) (c n : Nat) (T : List TT) (w : World) (hV : (vec B c 30 3 encTT T).holds w) (hn : T.length = n) (hN : n ≤ 4294967296) (hf : Fresh T 0 n) : Does Try.prog 17 #[.slice B n c] w (fun v w' => ∃ T', Mv 0 n T T' ∧ Srt T' 0 n ∧ SH w (vec B c 30 3 encTT T).foot [vec B c 30 3 encTT T'] w') := by
  refine does_enter1 Try.func17 rfl Try.ntmps17 rfl ?_
  have H := SH.own1 hV
  -- region 0: slots.go:30
  refine tr_region ?_
  refine tr_val (ov_move rfl rfl) rfl rfl rfl ?_
  refine tr_call (SortStable_t B c n T _ H.get0 hn hN hf) rfl rfl rfl Try.call58 rfl rfl rfl ?_
  rintro _ w1 ⟨T2, hm2, hs2, HC⟩
  have H := H.call1 HC
  refine tr_nil (post_ret0 (.inl rfl) rfl  ?_)
  exact ⟨T2, hm2, hs2, H⟩

/-- slots.Sort. -/
theorem Sort_c (B : Option Addr) (c : Nat) (L : List Thing) (w : World) (hV : (vec B c 30 3 encThing L).holds w) (hN : L.length ≤ 4294967296) :
    Does Try.prog 17 #[.slice B L.length c] w (fun v w' => SH w (vec B c 30 3 encThing L).foot [vec B c 30 3 encThing (sortT L)] w') := by
  have e : vec B c 30 3 encTT (tagL L 0) = vec B c 30 3 encThing L := by rw [vec_tag, tagL_map]
  rw [← e] at hV ⊢
  refine (Sort_t B c L.length (tagL L 0) w hV (tagL_len L 0) hN (tagL_fresh L)).mono fun v w' h => ?_
  obtain ⟨T', hm, hs, H⟩ := h
  rw [← srt_sortT hm.perm hs, ← vec_tag]
  exact H
theorem sortT_len (L : List Thing) : (sortT L).length = L.length := (isort_perm L).length_eq

end Go.Proofs.Ytblipnjjgbggiaa
