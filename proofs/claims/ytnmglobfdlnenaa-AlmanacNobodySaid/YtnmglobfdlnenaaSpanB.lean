/- Contracts of the package span, of curfewref07, and of what they call, part 2. Conditions: none. -/
import Derived.Test.YtnmglobfdlnenaaSpan
import Derived.Test.YtnmglobfdlnenaaSpanS
import Derived.Test.YtnmglobfdlnenaaSpJ
import Derived.Test.YtnmglobfdlnenaaHop
namespace Go.Proofs.Ytnmglobfdlnenaa
open Go Go.RowKit
set_option linter.unusedVariables false
set_option linter.unusedSimpArgs false

/-! curfew/span.Both -/
set_option maxRecDepth 20000 in
theorem Both_c (A : Option Addr) (c : Nat) (L : List Sp) (w : World) (hR : Rd w A 2 (L.map encSpan)) (hL : L.length ≤ 4294967296) (A2 : Option Addr) (c2 : Nat) (M : List Sp) (hR2 : Rd w A2 2 (M.map encSpan)) (hM : M.length ≤ 4294967296) : Does Try.prog 46 #[.slice A L.length c, .slice A2 M.length c2] w (fun v w' => ∃ A' c', v = .slice A' (bothV L M).length c' ∧ SH w noBlocks [vec A' c' 40 2 encSpan (bothV L M)] w') := by
  refine does_enter2 Try.func46 rfl Try.ntmps46 rfl ?_
  have H := SH.start w noBlocks
  refine tr_seq (fun K1 hK1 => ?_)
  -- region 0: span.go:97
  have H := H.addNil 40 2 encSpan
  refine tr_region ?_
  refine tr_val (ov_assign rfl rfl) rfl rfl rfl ?_
  refine tr_nil (hK1 _ _ (TrC.keep [4, 0, 1] ?_))
  show TrC _ _ _ _ [(4, _), (0, _), (1, _)] _ _
  refine tr_scope_ (lab := 0) rfl (X := Int × Int × List Sp × Option Addr × Nat) [0, 1] (fun ⟨i, j, R, A1, c1⟩ => [(5, .int .i64 i), (6, .int .i64 j), (4, .slice A1 R.length c1)]) (fun ⟨i, j, R, A1, c1⟩ w' => (rowV L = 0 ∧ rowV M = 0) ∧ 0 ≤ i ∧ i ≤ L.length ∧ 0 ≤ j ∧ j ≤ M.length ∧ R.length ≤ i + j ∧ R ++ zipL (L.drop i.toNat) (M.drop j.toNat) = zipL L M ∧ SH w noBlocks [vec A1 c1 40 2 encSpan R] w') (fun ⟨i, j, R, A1, c1⟩ => (L.length - i).toNat + (M.length - j).toNat) ?_ ?_
  · rintro ⟨i, j, R, A1, c1⟩ w1 ⟨⟨hr1, hr2⟩, hi0, hi1, hj0, hj1, hRl, hx, H⟩ K2 hK2
    show TrC _ _ _ _ [(5, _), (6, _), (4, _), (0, _), (1, _)] _ _
    refine tr_seq (fun K3 hK3 => ?_)
    refine tr_seq (fun K4 hK4 => ?_)
    -- region 4: span.go:103
    have hz1 := rowV_zero hr1
    have hz2 := rowV_zero hr2
    refine tr_region ?_
    refine tr_val (ov_move rfl rfl) rfl rfl rfl ?_
    refine tr_val (ov_move rfl rfl) rfl rfl rfl ?_
    refine tr_val (ov_len rfl rfl Try.underlying33 rfl) rfl rfl rfl ?_
    refine tr_val (ov_lss rfl rfl rfl) rfl rfl rfl ?_
    refine tr_val (ov_move rfl rfl) rfl rfl rfl ?_
    first | refine tr_split (t := 20) rfl (fun s20 => ?_) (fun s20 => ?_) | refine tr_splitb (t := 20) rfl (fun s20 => ?_) (fun s20 => ?_)
    · skip
      refine tr_val (ov_move rfl rfl) rfl rfl rfl ?_
      refine tr_val (ov_move rfl rfl) rfl rfl rfl ?_
      refine tr_val (ov_len rfl rfl Try.underlying33 rfl) rfl rfl rfl ?_
      refine tr_val (ov_lss rfl rfl rfl) rfl rfl rfl ?_
      refine tr_val (ov_pick (vb := undef) rfl rfl rfl rfl) rfl rfl rfl ?_
      refine tr_nil (hK4 _ _ (TrC.keep [25, 5, 6, 4, 0, 1] ?_))
      show TrC _ _ _ _ [(25, _), (5, _), (6, _), (4, _), (0, _), (1, _)] _ _
      first | refine tr_cond rfl (fun c25 => ?_) (fun c25 => ?_) | refine tr_condb rfl (fun c25 => ?_) (fun c25 => ?_)
      · skip
        refine tr_seq (fun K5 hK5 => ?_)
        refine tr_seq (fun K6 hK6 => ?_)
        -- region 5: span.go:104
        refine tr_held (fun w' => ∃ rs, SH w noBlocks rs w') mixed rfl H ?_
        intro w2 H
        refine th_take 0 rfl (by kernel_rfl) (by kernel_rfl) (by kernel_rfl) (⟨_, H⟩) (fun _ hS => ov_move rfl rfl) rfl rfl rfl ?_
        refine th_take 1 rfl (by kernel_rfl) (by kernel_rfl) (by kernel_rfl) (⟨_, H⟩) (fun _ hS => ov_move rfl rfl) rfl rfl rfl ?_
        refine th_take 2 rfl (by kernel_rfl) (by kernel_rfl) (by kernel_rfl) (⟨_, H⟩) (fun _ hS => ov_indexAddrR (rdS hS hR) rfl Try.underlying33 (Try.sizeOf40 _) rfl rfl (by omega) (by omega)) rfl rfl rfl ?_
        refine th_take 3 rfl (by kernel_rfl) (by kernel_rfl) (by kernel_rfl) (⟨_, H⟩) (fun _ hS => ld_Span (rdS hS hR) rfl (Try.isAgg40 _) (Try.sizeOf40 _) rfl (by omega) (by omega)) rfl rfl rfl ?_
        refine th_take 4 rfl (by kernel_rfl) (by kernel_rfl) (by kernel_rfl) (⟨_, H⟩) (fun _ hS => ov_move rfl rfl) rfl rfl rfl ?_
        refine th_take 5 rfl (by kernel_rfl) (by kernel_rfl) (by kernel_rfl) (⟨_, H⟩) (fun _ hS => ov_move rfl rfl) rfl rfl rfl ?_
        refine th_take 6 rfl (by kernel_rfl) (by kernel_rfl) (by kernel_rfl) (⟨_, H⟩) (fun _ hS => ov_indexAddrR (rdS hS hR2) rfl Try.underlying33 (Try.sizeOf40 _) rfl rfl (by omega) (by omega)) rfl rfl rfl ?_
        refine th_take 7 rfl (by kernel_rfl) (by kernel_rfl) (by kernel_rfl) (⟨_, H⟩) (fun _ hS => ov_fieldAddr rfl Try.underlying40 rfl (Try.sizeOf2 _) (by decide) rfl) rfl rfl rfl ?_
        refine th_take 8 rfl (by kernel_rfl) (by kernel_rfl) (by kernel_rfl) (⟨_, H⟩) (fun _ hS => ld_Span_0 (rdS hS hR2) rfl (Try.isAgg2 _) rfl (by omega) (by omega)) rfl rfl rfl ?_
        refine th_take 9 rfl (by kernel_rfl) (by kernel_rfl) (by kernel_rfl) (⟨_, H⟩) (fun _ hS => ov_move rfl rfl) rfl rfl rfl ?_
        refine th_take 10 rfl (by kernel_rfl) (by kernel_rfl) (by kernel_rfl) (⟨_, H⟩) (fun _ hS => ov_move rfl rfl) rfl rfl rfl ?_
        refine th_take 11 rfl (by kernel_rfl) (by kernel_rfl) (by kernel_rfl) (⟨_, H⟩) (fun _ hS => ov_indexAddrR (rdS hS hR2) rfl Try.underlying33 (Try.sizeOf40 _) rfl rfl (by omega) (by omega)) rfl rfl rfl ?_
        refine th_take 12 rfl (by kernel_rfl) (by kernel_rfl) (by kernel_rfl) (⟨_, H⟩) (fun _ hS => ov_fieldAddr rfl Try.underlying40 rfl (Try.sizeOf2 _) (by decide) rfl) rfl rfl rfl ?_
        refine th_take 13 rfl (by kernel_rfl) (by kernel_rfl) (by kernel_rfl) (⟨_, H⟩) (fun _ hS => ld_Span_1 (rdS hS hR2) rfl (Try.isAgg2 _) rfl (by omega) (by omega)) rfl rfl rfl ?_
        refine th_two 14 15 (by kernel_rfl) ?_ ?_
        · skip
          refine tw_call (common_c (gt L i) (gt M j).1 (gt M j).2 _) rfl rfl rfl rfl Try.call69 rfl rfl rfl ?_
          rintro _ w3 ⟨rfl, HC⟩
          have H := H.call0n HC
          refine ⟨⟨_, H⟩, ?_⟩
          refine th_one 15 (by kernel_rfl) ?_
          refine tw_alloc H rfl rfl (Try.zeroValue40 _) rfl rfl rfl rfl ?_
          intro b1 w4 hb1 H
          refine ⟨⟨_, H⟩, ?_⟩
          refine th_one 16 (by kernel_rfl) ?_
          first | (refine tw_storeW H.get0 rfl rfl (Try.sizeOf40 _) rfl rfl rfl rfl rfl rfl rfl rfl ?_; intro w5 U; have H := H.upd0 U; clear U) | (refine tw_storeW H.get1 rfl rfl (Try.sizeOf40 _) rfl rfl rfl rfl rfl rfl rfl rfl ?_; intro w5 U; have H := H.upd1 U; clear U) | (refine tw_storeW H.get2 rfl rfl (Try.sizeOf40 _) rfl rfl rfl rfl rfl rfl rfl rfl ?_; intro w5 U; have H := H.upd2 U; clear U) | (refine tw_storeW H.get3 rfl rfl (Try.sizeOf40 _) rfl rfl rfl rfl rfl rfl rfl rfl ?_; intro w5 U; have H := H.upd3 U; clear U) | (refine tw_storeW H.get4 rfl rfl (Try.sizeOf40 _) rfl rfl rfl rfl rfl rfl rfl rfl ?_; intro w5 U; have H := H.upd4 U; clear U) | (refine tw_storeW H.get5 rfl rfl (Try.sizeOf40 _) rfl rfl rfl rfl rfl rfl rfl rfl ?_; intro w5 U; have H := H.upd5 U; clear U)
          refine ⟨⟨_, H⟩, ?_⟩
          refine th_done (by kernel_rfl) ?_
          refine hK6 _ _ (TrC.keep [7, 25, 5, 6, 4, 0, 1] ?_)
          show TrC _ _ _ _ [(7, _), (25, _), (5, _), (6, _), (4, _), (0, _), (1, _)] _ _
          refine tr_seq (fun K7 hK7 => ?_)
          -- region 6: span.go:104
          refine tr_region ?_
          refine tr_val (ov_fieldAddr rfl Try.underlying40 rfl (Try.sizeOf2 _) (by decide) rfl) rfl rfl rfl ?_
          first | refine tr_val (ov_load_blk H.get0 rfl (Try.isAgg2 _) rfl rfl rfl) rfl rfl rfl ?_ | refine tr_val (ov_load_blk H.get1 rfl (Try.isAgg2 _) rfl rfl rfl) rfl rfl rfl ?_ | refine tr_val (ov_load_blk H.get2 rfl (Try.isAgg2 _) rfl rfl rfl) rfl rfl rfl ?_ | refine tr_val (ov_load_blk H.get3 rfl (Try.isAgg2 _) rfl rfl rfl) rfl rfl rfl ?_ | refine tr_val (ov_load_blk H.get4 rfl (Try.isAgg2 _) rfl rfl rfl) rfl rfl rfl ?_ | refine tr_val (ov_load_blk H.get5 rfl (Try.isAgg2 _) rfl rfl rfl) rfl rfl rfl ?_
          refine tr_val (ov_fieldAddr rfl Try.underlying40 rfl (Try.sizeOf2 _) (by decide) rfl) rfl rfl rfl ?_
          first | refine tr_val (ov_load_blk H.get0 rfl (Try.isAgg2 _) rfl rfl rfl) rfl rfl rfl ?_ | refine tr_val (ov_load_blk H.get1 rfl (Try.isAgg2 _) rfl rfl rfl) rfl rfl rfl ?_ | refine tr_val (ov_load_blk H.get2 rfl (Try.isAgg2 _) rfl rfl rfl) rfl rfl rfl ?_ | refine tr_val (ov_load_blk H.get3 rfl (Try.isAgg2 _) rfl rfl rfl) rfl rfl rfl ?_ | refine tr_val (ov_load_blk H.get4 rfl (Try.isAgg2 _) rfl rfl rfl) rfl rfl rfl ?_ | refine tr_val (ov_load_blk H.get5 rfl (Try.isAgg2 _) rfl rfl rfl) rfl rfl rfl ?_
          refine tr_val (ov_lss rfl rfl rfl) rfl rfl rfl ?_
          refine tr_nil (hK7 _ _ (TrC.keep [45, 7, 25, 5, 6, 4, 0, 1] ?_))
          show TrC _ _ _ _ [(45, _), (7, _), (25, _), (5, _), (6, _), (4, _), (0, _), (1, _)] _ _
          first | refine tr_cond rfl (fun c45 => ?_) (fun c45 => ?_) | refine tr_condb rfl (fun c45 => ?_) (fun c45 => ?_)
          · skip
            -- region 7: span.go:105
            refine tr_region ?_
            refine tr_val (ov_move rfl rfl) rfl rfl rfl ?_
            first | refine tr_val (ov_load_blkN H.get0 rfl (Try.isAgg40 _) (Try.sizeOf40 _) rfl rfl rfl) rfl rfl rfl ?_ | refine tr_val (ov_load_blkN H.get1 rfl (Try.isAgg40 _) (Try.sizeOf40 _) rfl rfl rfl) rfl rfl rfl ?_ | refine tr_val (ov_load_blkN H.get2 rfl (Try.isAgg40 _) (Try.sizeOf40 _) rfl rfl rfl) rfl rfl rfl ?_ | refine tr_val (ov_load_blkN H.get3 rfl (Try.isAgg40 _) (Try.sizeOf40 _) rfl rfl rfl) rfl rfl rfl ?_ | refine tr_val (ov_load_blkN H.get4 rfl (Try.isAgg40 _) (Try.sizeOf40 _) rfl rfl rfl) rfl rfl rfl ?_ | refine tr_val (ov_load_blkN H.get5 rfl (Try.isAgg40 _) (Try.sizeOf40 _) rfl rfl rfl) rfl rfl rfl ?_
            refine tr_buildSlice H rfl Try.underlying33 info40 rfl (fun ρ k => bs1 k rfl) (by decide) (by decide) (fill_Span_1 _ _) rfl rfl rfl ?_
            intro b2 w6 hb2 H
            refine tr_append H.get2 (rd_blk [common (gt L i) (gt M j).1 (gt M j).2] H.get0 rfl lenSpan) rfl rfl rfl Try.underlying33 info40 rfl rfl (show Try.t40.bytes = 16 from rfl) rfl (by decide) lenSpan oneSpan (by simp; omega) (by simp [maxLen]; omega) rfl rfl rfl ?_
            intro A' c' w7 U; have H := H.upd2 U; clear U
            refine tr_val (ov_assign rfl rfl) rfl rfl rfl ?_
            refine tr_nil (hK5 _ _ (TrC.keep [4, 45, 7, 25, 5, 6, 0, 1] ?_))
            show TrC _ _ _ _ [(4, _), (45, _), (7, _), (25, _), (5, _), (6, _), (0, _), (1, _)] _ _
            refine tr_seq (fun K8 hK8 => ?_)
            refine tr_seq (fun K9 hK9 => ?_)
            -- region 8: span.go:107
            refine tr_quiet mixed (by kernel_rfl) H ?_
            refine tq_val (fun _ H => ov_move rfl rfl) rfl rfl rfl ?_
            refine tq_val (fun _ H => ov_move rfl rfl) rfl rfl rfl ?_
            refine tq_val (fun _ H => ov_indexAddrR (H.rd0 hR) rfl Try.underlying33 (Try.sizeOf40 _) rfl rfl (by omega) (by omega)) rfl rfl rfl ?_
            refine tq_val (fun _ H => ov_fieldAddr rfl Try.underlying40 rfl (Try.sizeOf2 _) (by decide) rfl) rfl rfl rfl ?_
            refine tq_val (fun _ H => ld_Span_1 (H.rd0 hR) rfl (Try.isAgg2 _) rfl (by omega) (by omega)) rfl rfl rfl ?_
            refine tq_val (fun _ H => ov_move rfl rfl) rfl rfl rfl ?_
            refine tq_val (fun _ H => ov_move rfl rfl) rfl rfl rfl ?_
            refine tq_val (fun _ H => ov_indexAddrR (H.rd0 hR2) rfl Try.underlying33 (Try.sizeOf40 _) rfl rfl (by omega) (by omega)) rfl rfl rfl ?_
            refine tq_val (fun _ H => ov_fieldAddr rfl Try.underlying40 rfl (Try.sizeOf2 _) (by decide) rfl) rfl rfl rfl ?_
            refine tq_val (fun _ H => ld_Span_1 (H.rd0 hR2) rfl (Try.isAgg2 _) rfl (by omega) (by omega)) rfl rfl rfl ?_
            refine tq_val (fun _ H => ov_leq rfl rfl rfl) rfl rfl rfl ?_
            refine tq_nil ?_
            intro w8 H
            refine hK9 _ _ (TrC.keep [60, 4, 45, 7, 25, 5, 6, 0, 1] ?_)
            show TrC _ _ _ _ [(60, _), (4, _), (45, _), (7, _), (25, _), (5, _), (6, _), (0, _), (1, _)] _ _
            first | refine tr_cond rfl (fun c60 => ?_) (fun c60 => ?_) | refine tr_condb rfl (fun c60 => ?_) (fun c60 => ?_)
            · skip
              -- region 9: span.go:108
              refine tr_region ?_
              refine tr_val (ov_move rfl rfl) rfl rfl rfl ?_
              refine tr_val (ov_add rfl rfl rfl (w64 (by omega))) rfl rfl rfl ?_
              refine tr_val (ov_assign rfl rfl) rfl rfl rfl ?_
              refine tr_nil (hK8 _ _ (TrC.keep [5, 60, 4, 45, 7, 25, 6, 0, 1] ?_))
              show TrC _ _ _ _ [(5, _), (60, _), (4, _), (45, _), (7, _), (25, _), (6, _), (0, _), (1, _)] _ _
              skip
              exact tr_goto <| tk_hop (hK2 (⟨i + 1, j, R ++ [common (gt L i) (gt M j).1 (gt M j).2], A', c'⟩) _ _ (⟨⟨hr1, hr2⟩, by omega, by omega, by omega, by omega, by (try simp); omega, by rw [← hx, zip_le hi0 (by omega) hj0 (by omega) (by omega), if_pos (show max (gt L i).1 (gt M j).1 < min (gt L i).2 (gt M j).2 from c45)]; simp, H.drop0.drop0⟩) (by first | omega | (dsimp only; omega)) (Sub.cons rfl (Sub.cons rfl (Sub.cons rfl (Sub.cons rfl (Sub.cons rfl Sub.nil))))))
            · skip
              -- region 10: span.go:110
              refine tr_region ?_
              refine tr_val (ov_move rfl rfl) rfl rfl rfl ?_
              refine tr_val (ov_add rfl rfl rfl (w64 (by omega))) rfl rfl rfl ?_
              refine tr_val (ov_assign rfl rfl) rfl rfl rfl ?_
              refine tr_nil (hK8 _ _ (TrC.keep [6, 60, 4, 45, 7, 25, 5, 0, 1] ?_))
              show TrC _ _ _ _ [(6, _), (60, _), (4, _), (45, _), (7, _), (25, _), (5, _), (0, _), (1, _)] _ _
              skip
              exact tr_goto <| tk_hop (hK2 (⟨i, j + 1, R ++ [common (gt L i) (gt M j).1 (gt M j).2], A', c'⟩) _ _ (⟨⟨hr1, hr2⟩, by omega, by omega, by omega, by omega, by (try simp); omega, by rw [← hx, zip_gt hi0 (by omega) hj0 (by omega) (by omega), if_pos (show max (gt L i).1 (gt M j).1 < min (gt L i).2 (gt M j).2 from c45)]; simp, H.drop0.drop0⟩) (by first | omega | (dsimp only; omega)) (Sub.cons rfl (Sub.cons rfl (Sub.cons rfl (Sub.cons rfl (Sub.cons rfl Sub.nil))))))
          · skip
            refine tr_skip (hK5 _ _ (TrC.keep [45, 7, 25, 5, 6, 4, 0, 1] ?_))
            show TrC _ _ _ _ [(45, _), (7, _), (25, _), (5, _), (6, _), (4, _), (0, _), (1, _)] _ _
            refine tr_seq (fun K10 hK10 => ?_)
            refine tr_seq (fun K11 hK11 => ?_)
            -- region 8: span.go:107
            refine tr_quiet mixed (by kernel_rfl) H ?_
            refine tq_val (fun _ H => ov_move rfl rfl) rfl rfl rfl ?_
            refine tq_val (fun _ H => ov_move rfl rfl) rfl rfl rfl ?_
            refine tq_val (fun _ H => ov_indexAddrR (H.rd0 hR) rfl Try.underlying33 (Try.sizeOf40 _) rfl rfl (by omega) (by omega)) rfl rfl rfl ?_
            refine tq_val (fun _ H => ov_fieldAddr rfl Try.underlying40 rfl (Try.sizeOf2 _) (by decide) rfl) rfl rfl rfl ?_
            refine tq_val (fun _ H => ld_Span_1 (H.rd0 hR) rfl (Try.isAgg2 _) rfl (by omega) (by omega)) rfl rfl rfl ?_
            refine tq_val (fun _ H => ov_move rfl rfl) rfl rfl rfl ?_
            refine tq_val (fun _ H => ov_move rfl rfl) rfl rfl rfl ?_
            refine tq_val (fun _ H => ov_indexAddrR (H.rd0 hR2) rfl Try.underlying33 (Try.sizeOf40 _) rfl rfl (by omega) (by omega)) rfl rfl rfl ?_
            refine tq_val (fun _ H => ov_fieldAddr rfl Try.underlying40 rfl (Try.sizeOf2 _) (by decide) rfl) rfl rfl rfl ?_
            refine tq_val (fun _ H => ld_Span_1 (H.rd0 hR2) rfl (Try.isAgg2 _) rfl (by omega) (by omega)) rfl rfl rfl ?_
            refine tq_val (fun _ H => ov_leq rfl rfl rfl) rfl rfl rfl ?_
            refine tq_nil ?_
            intro w9 H
            refine hK11 _ _ (TrC.keep [60, 45, 7, 25, 5, 6, 4, 0, 1] ?_)
            show TrC _ _ _ _ [(60, _), (45, _), (7, _), (25, _), (5, _), (6, _), (4, _), (0, _), (1, _)] _ _
            first | refine tr_cond rfl (fun c60 => ?_) (fun c60 => ?_) | refine tr_condb rfl (fun c60 => ?_) (fun c60 => ?_)
            · skip
              -- region 9: span.go:108
              refine tr_region ?_
              refine tr_val (ov_move rfl rfl) rfl rfl rfl ?_
              refine tr_val (ov_add rfl rfl rfl (w64 (by omega))) rfl rfl rfl ?_
              refine tr_val (ov_assign rfl rfl) rfl rfl rfl ?_
              refine tr_nil (hK10 _ _ (TrC.keep [5, 60, 45, 7, 25, 6, 4, 0, 1] ?_))
              show TrC _ _ _ _ [(5, _), (60, _), (45, _), (7, _), (25, _), (6, _), (4, _), (0, _), (1, _)] _ _
              skip
              exact tr_goto <| tk_hop (hK2 (⟨i + 1, j, R, A1, c1⟩) _ _ (⟨⟨hr1, hr2⟩, by omega, by omega, by omega, by omega, by (try simp); omega, by rw [← hx, zip_le hi0 (by omega) hj0 (by omega) (by omega), if_neg (show ¬ max (gt L i).1 (gt M j).1 < min (gt L i).2 (gt M j).2 from c45)]; simp, H.drop0⟩) (by first | omega | (dsimp only; omega)) (Sub.cons rfl (Sub.cons rfl (Sub.cons rfl (Sub.cons rfl (Sub.cons rfl Sub.nil))))))
            · skip
              -- region 10: span.go:110
              refine tr_region ?_
              refine tr_val (ov_move rfl rfl) rfl rfl rfl ?_
              refine tr_val (ov_add rfl rfl rfl (w64 (by omega))) rfl rfl rfl ?_
              refine tr_val (ov_assign rfl rfl) rfl rfl rfl ?_
              refine tr_nil (hK10 _ _ (TrC.keep [6, 60, 45, 7, 25, 5, 4, 0, 1] ?_))
              show TrC _ _ _ _ [(6, _), (60, _), (45, _), (7, _), (25, _), (5, _), (4, _), (0, _), (1, _)] _ _
              skip
              exact tr_goto <| tk_hop (hK2 (⟨i, j + 1, R, A1, c1⟩) _ _ (⟨⟨hr1, hr2⟩, by omega, by omega, by omega, by omega, by (try simp); omega, by rw [← hx, zip_gt hi0 (by omega) hj0 (by omega) (by omega), if_neg (show ¬ max (gt L i).1 (gt M j).1 < min (gt L i).2 (gt M j).2 from c45)]; simp, H.drop0⟩) (by first | omega | (dsimp only; omega)) (Sub.cons rfl (Sub.cons rfl (Sub.cons rfl (Sub.cons rfl (Sub.cons rfl Sub.nil))))))
        · skip
          refine tw_alloc H rfl rfl (Try.zeroValue40 _) rfl rfl rfl rfl ?_
          intro b3 w10 hb3 H
          refine ⟨⟨_, H⟩, ?_⟩
          refine th_one 14 (by kernel_rfl) ?_
          refine tw_call (common_c (gt L i) (gt M j).1 (gt M j).2 _) rfl rfl rfl rfl Try.call69 rfl rfl rfl ?_
          rintro _ w11 ⟨rfl, HC⟩
          have H := H.call0n HC
          refine ⟨⟨_, H⟩, ?_⟩
          refine th_one 16 (by kernel_rfl) ?_
          first | (refine tw_storeW H.get0 rfl rfl (Try.sizeOf40 _) rfl rfl rfl rfl rfl rfl rfl rfl ?_; intro w12 U; have H := H.upd0 U; clear U) | (refine tw_storeW H.get1 rfl rfl (Try.sizeOf40 _) rfl rfl rfl rfl rfl rfl rfl rfl ?_; intro w12 U; have H := H.upd1 U; clear U) | (refine tw_storeW H.get2 rfl rfl (Try.sizeOf40 _) rfl rfl rfl rfl rfl rfl rfl rfl ?_; intro w12 U; have H := H.upd2 U; clear U) | (refine tw_storeW H.get3 rfl rfl (Try.sizeOf40 _) rfl rfl rfl rfl rfl rfl rfl rfl ?_; intro w12 U; have H := H.upd3 U; clear U) | (refine tw_storeW H.get4 rfl rfl (Try.sizeOf40 _) rfl rfl rfl rfl rfl rfl rfl rfl ?_; intro w12 U; have H := H.upd4 U; clear U) | (refine tw_storeW H.get5 rfl rfl (Try.sizeOf40 _) rfl rfl rfl rfl rfl rfl rfl rfl ?_; intro w12 U; have H := H.upd5 U; clear U)
          refine ⟨⟨_, H⟩, ?_⟩
          refine th_done (by kernel_rfl) ?_
          refine hK6 _ _ (TrC.keep [7, 25, 5, 6, 4, 0, 1] ?_)
          show TrC _ _ _ _ [(7, _), (25, _), (5, _), (6, _), (4, _), (0, _), (1, _)] _ _
          refine tr_seq (fun K12 hK12 => ?_)
          -- region 6: span.go:104
          refine tr_region ?_
          refine tr_val (ov_fieldAddr rfl Try.underlying40 rfl (Try.sizeOf2 _) (by decide) rfl) rfl rfl rfl ?_
          first | refine tr_val (ov_load_blk H.get0 rfl (Try.isAgg2 _) rfl rfl rfl) rfl rfl rfl ?_ | refine tr_val (ov_load_blk H.get1 rfl (Try.isAgg2 _) rfl rfl rfl) rfl rfl rfl ?_ | refine tr_val (ov_load_blk H.get2 rfl (Try.isAgg2 _) rfl rfl rfl) rfl rfl rfl ?_ | refine tr_val (ov_load_blk H.get3 rfl (Try.isAgg2 _) rfl rfl rfl) rfl rfl rfl ?_ | refine tr_val (ov_load_blk H.get4 rfl (Try.isAgg2 _) rfl rfl rfl) rfl rfl rfl ?_ | refine tr_val (ov_load_blk H.get5 rfl (Try.isAgg2 _) rfl rfl rfl) rfl rfl rfl ?_
          refine tr_val (ov_fieldAddr rfl Try.underlying40 rfl (Try.sizeOf2 _) (by decide) rfl) rfl rfl rfl ?_
          first | refine tr_val (ov_load_blk H.get0 rfl (Try.isAgg2 _) rfl rfl rfl) rfl rfl rfl ?_ | refine tr_val (ov_load_blk H.get1 rfl (Try.isAgg2 _) rfl rfl rfl) rfl rfl rfl ?_ | refine tr_val (ov_load_blk H.get2 rfl (Try.isAgg2 _) rfl rfl rfl) rfl rfl rfl ?_ | refine tr_val (ov_load_blk H.get3 rfl (Try.isAgg2 _) rfl rfl rfl) rfl rfl rfl ?_ | refine tr_val (ov_load_blk H.get4 rfl (Try.isAgg2 _) rfl rfl rfl) rfl rfl rfl ?_ | refine tr_val (ov_load_blk H.get5 rfl (Try.isAgg2 _) rfl rfl rfl) rfl rfl rfl ?_
          refine tr_val (ov_lss rfl rfl rfl) rfl rfl rfl ?_
          refine tr_nil (hK12 _ _ (TrC.keep [45, 7, 25, 5, 6, 4, 0, 1] ?_))
          show TrC _ _ _ _ [(45, _), (7, _), (25, _), (5, _), (6, _), (4, _), (0, _), (1, _)] _ _
          first | refine tr_cond rfl (fun c45 => ?_) (fun c45 => ?_) | refine tr_condb rfl (fun c45 => ?_) (fun c45 => ?_)
          · skip
            -- region 7: span.go:105
            refine tr_region ?_
            refine tr_val (ov_move rfl rfl) rfl rfl rfl ?_
            first | refine tr_val (ov_load_blkN H.get0 rfl (Try.isAgg40 _) (Try.sizeOf40 _) rfl rfl rfl) rfl rfl rfl ?_ | refine tr_val (ov_load_blkN H.get1 rfl (Try.isAgg40 _) (Try.sizeOf40 _) rfl rfl rfl) rfl rfl rfl ?_ | refine tr_val (ov_load_blkN H.get2 rfl (Try.isAgg40 _) (Try.sizeOf40 _) rfl rfl rfl) rfl rfl rfl ?_ | refine tr_val (ov_load_blkN H.get3 rfl (Try.isAgg40 _) (Try.sizeOf40 _) rfl rfl rfl) rfl rfl rfl ?_ | refine tr_val (ov_load_blkN H.get4 rfl (Try.isAgg40 _) (Try.sizeOf40 _) rfl rfl rfl) rfl rfl rfl ?_ | refine tr_val (ov_load_blkN H.get5 rfl (Try.isAgg40 _) (Try.sizeOf40 _) rfl rfl rfl) rfl rfl rfl ?_
            refine tr_buildSlice H rfl Try.underlying33 info40 rfl (fun ρ k => bs1 k rfl) (by decide) (by decide) (fill_Span_1 _ _) rfl rfl rfl ?_
            intro b4 w13 hb4 H
            refine tr_append H.get2 (rd_blk [common (gt L i) (gt M j).1 (gt M j).2] H.get0 rfl lenSpan) rfl rfl rfl Try.underlying33 info40 rfl rfl (show Try.t40.bytes = 16 from rfl) rfl (by decide) lenSpan oneSpan (by simp; omega) (by simp [maxLen]; omega) rfl rfl rfl ?_
            intro A' c' w14 U; have H := H.upd2 U; clear U
            refine tr_val (ov_assign rfl rfl) rfl rfl rfl ?_
            refine tr_nil (hK5 _ _ (TrC.keep [4, 45, 7, 25, 5, 6, 0, 1] ?_))
            show TrC _ _ _ _ [(4, _), (45, _), (7, _), (25, _), (5, _), (6, _), (0, _), (1, _)] _ _
            refine tr_seq (fun K13 hK13 => ?_)
            refine tr_seq (fun K14 hK14 => ?_)
            -- region 8: span.go:107
            refine tr_quiet mixed (by kernel_rfl) H ?_
            refine tq_val (fun _ H => ov_move rfl rfl) rfl rfl rfl ?_
            refine tq_val (fun _ H => ov_move rfl rfl) rfl rfl rfl ?_
            refine tq_val (fun _ H => ov_indexAddrR (H.rd0 hR) rfl Try.underlying33 (Try.sizeOf40 _) rfl rfl (by omega) (by omega)) rfl rfl rfl ?_
            refine tq_val (fun _ H => ov_fieldAddr rfl Try.underlying40 rfl (Try.sizeOf2 _) (by decide) rfl) rfl rfl rfl ?_
            refine tq_val (fun _ H => ld_Span_1 (H.rd0 hR) rfl (Try.isAgg2 _) rfl (by omega) (by omega)) rfl rfl rfl ?_
            refine tq_val (fun _ H => ov_move rfl rfl) rfl rfl rfl ?_
            refine tq_val (fun _ H => ov_move rfl rfl) rfl rfl rfl ?_
            refine tq_val (fun _ H => ov_indexAddrR (H.rd0 hR2) rfl Try.underlying33 (Try.sizeOf40 _) rfl rfl (by omega) (by omega)) rfl rfl rfl ?_
            refine tq_val (fun _ H => ov_fieldAddr rfl Try.underlying40 rfl (Try.sizeOf2 _) (by decide) rfl) rfl rfl rfl ?_
            refine tq_val (fun _ H => ld_Span_1 (H.rd0 hR2) rfl (Try.isAgg2 _) rfl (by omega) (by omega)) rfl rfl rfl ?_
            refine tq_val (fun _ H => ov_leq rfl rfl rfl) rfl rfl rfl ?_
            refine tq_nil ?_
            intro w15 H
            refine hK14 _ _ (TrC.keep [60, 4, 45, 7, 25, 5, 6, 0, 1] ?_)
            show TrC _ _ _ _ [(60, _), (4, _), (45, _), (7, _), (25, _), (5, _), (6, _), (0, _), (1, _)] _ _
            first | refine tr_cond rfl (fun c60 => ?_) (fun c60 => ?_) | refine tr_condb rfl (fun c60 => ?_) (fun c60 => ?_)
            · skip
              -- region 9: span.go:108
              refine tr_region ?_
              refine tr_val (ov_move rfl rfl) rfl rfl rfl ?_
              refine tr_val (ov_add rfl rfl rfl (w64 (by omega))) rfl rfl rfl ?_
              refine tr_val (ov_assign rfl rfl) rfl rfl rfl ?_
              refine tr_nil (hK13 _ _ (TrC.keep [5, 60, 4, 45, 7, 25, 6, 0, 1] ?_))
              show TrC _ _ _ _ [(5, _), (60, _), (4, _), (45, _), (7, _), (25, _), (6, _), (0, _), (1, _)] _ _
              skip
              exact tr_goto <| tk_hop (hK2 (⟨i + 1, j, R ++ [common (gt L i) (gt M j).1 (gt M j).2], A', c'⟩) _ _ (⟨⟨hr1, hr2⟩, by omega, by omega, by omega, by omega, by (try simp); omega, by rw [← hx, zip_le hi0 (by omega) hj0 (by omega) (by omega), if_pos (show max (gt L i).1 (gt M j).1 < min (gt L i).2 (gt M j).2 from c45)]; simp, H.drop0.drop0⟩) (by first | omega | (dsimp only; omega)) (Sub.cons rfl (Sub.cons rfl (Sub.cons rfl (Sub.cons rfl (Sub.cons rfl Sub.nil))))))
            · skip
              -- region 10: span.go:110
              refine tr_region ?_
              refine tr_val (ov_move rfl rfl) rfl rfl rfl ?_
              refine tr_val (ov_add rfl rfl rfl (w64 (by omega))) rfl rfl rfl ?_
              refine tr_val (ov_assign rfl rfl) rfl rfl rfl ?_
              refine tr_nil (hK13 _ _ (TrC.keep [6, 60, 4, 45, 7, 25, 5, 0, 1] ?_))
              show TrC _ _ _ _ [(6, _), (60, _), (4, _), (45, _), (7, _), (25, _), (5, _), (0, _), (1, _)] _ _
              skip
              exact tr_goto <| tk_hop (hK2 (⟨i, j + 1, R ++ [common (gt L i) (gt M j).1 (gt M j).2], A', c'⟩) _ _ (⟨⟨hr1, hr2⟩, by omega, by omega, by omega, by omega, by (try simp); omega, by rw [← hx, zip_gt hi0 (by omega) hj0 (by omega) (by omega), if_pos (show max (gt L i).1 (gt M j).1 < min (gt L i).2 (gt M j).2 from c45)]; simp, H.drop0.drop0⟩) (by first | omega | (dsimp only; omega)) (Sub.cons rfl (Sub.cons rfl (Sub.cons rfl (Sub.cons rfl (Sub.cons rfl Sub.nil))))))
          · skip
            refine tr_skip (hK5 _ _ (TrC.keep [45, 7, 25, 5, 6, 4, 0, 1] ?_))
            show TrC _ _ _ _ [(45, _), (7, _), (25, _), (5, _), (6, _), (4, _), (0, _), (1, _)] _ _
            refine tr_seq (fun K15 hK15 => ?_)
            refine tr_seq (fun K16 hK16 => ?_)
            -- region 8: span.go:107
            refine tr_quiet mixed (by kernel_rfl) H ?_
            refine tq_val (fun _ H => ov_move rfl rfl) rfl rfl rfl ?_
            refine tq_val (fun _ H => ov_move rfl rfl) rfl rfl rfl ?_
            refine tq_val (fun _ H => ov_indexAddrR (H.rd0 hR) rfl Try.underlying33 (Try.sizeOf40 _) rfl rfl (by omega) (by omega)) rfl rfl rfl ?_
            refine tq_val (fun _ H => ov_fieldAddr rfl Try.underlying40 rfl (Try.sizeOf2 _) (by decide) rfl) rfl rfl rfl ?_
            refine tq_val (fun _ H => ld_Span_1 (H.rd0 hR) rfl (Try.isAgg2 _) rfl (by omega) (by omega)) rfl rfl rfl ?_
            refine tq_val (fun _ H => ov_move rfl rfl) rfl rfl rfl ?_
            refine tq_val (fun _ H => ov_move rfl rfl) rfl rfl rfl ?_
            refine tq_val (fun _ H => ov_indexAddrR (H.rd0 hR2) rfl Try.underlying33 (Try.sizeOf40 _) rfl rfl (by omega) (by omega)) rfl rfl rfl ?_
            refine tq_val (fun _ H => ov_fieldAddr rfl Try.underlying40 rfl (Try.sizeOf2 _) (by decide) rfl) rfl rfl rfl ?_
            refine tq_val (fun _ H => ld_Span_1 (H.rd0 hR2) rfl (Try.isAgg2 _) rfl (by omega) (by omega)) rfl rfl rfl ?_
            refine tq_val (fun _ H => ov_leq rfl rfl rfl) rfl rfl rfl ?_
            refine tq_nil ?_
            intro w16 H
            refine hK16 _ _ (TrC.keep [60, 45, 7, 25, 5, 6, 4, 0, 1] ?_)
            show TrC _ _ _ _ [(60, _), (45, _), (7, _), (25, _), (5, _), (6, _), (4, _), (0, _), (1, _)] _ _
            first | refine tr_cond rfl (fun c60 => ?_) (fun c60 => ?_) | refine tr_condb rfl (fun c60 => ?_) (fun c60 => ?_)
            · skip
              -- region 9: span.go:108
              refine tr_region ?_
              refine tr_val (ov_move rfl rfl) rfl rfl rfl ?_
              refine tr_val (ov_add rfl rfl rfl (w64 (by omega))) rfl rfl rfl ?_
              refine tr_val (ov_assign rfl rfl) rfl rfl rfl ?_
              refine tr_nil (hK15 _ _ (TrC.keep [5, 60, 45, 7, 25, 6, 4, 0, 1] ?_))
              show TrC _ _ _ _ [(5, _), (60, _), (45, _), (7, _), (25, _), (6, _), (4, _), (0, _), (1, _)] _ _
              skip
              exact tr_goto <| tk_hop (hK2 (⟨i + 1, j, R, A1, c1⟩) _ _ (⟨⟨hr1, hr2⟩, by omega, by omega, by omega, by omega, by (try simp); omega, by rw [← hx, zip_le hi0 (by omega) hj0 (by omega) (by omega), if_neg (show ¬ max (gt L i).1 (gt M j).1 < min (gt L i).2 (gt M j).2 from c45)]; simp, H.drop0⟩) (by first | omega | (dsimp only; omega)) (Sub.cons rfl (Sub.cons rfl (Sub.cons rfl (Sub.cons rfl (Sub.cons rfl Sub.nil))))))
            · skip
              -- region 10: span.go:110
              refine tr_region ?_
              refine tr_val (ov_move rfl rfl) rfl rfl rfl ?_
              refine tr_val (ov_add rfl rfl rfl (w64 (by omega))) rfl rfl rfl ?_
              refine tr_val (ov_assign rfl rfl) rfl rfl rfl ?_
              refine tr_nil (hK15 _ _ (TrC.keep [6, 60, 45, 7, 25, 5, 4, 0, 1] ?_))
              show TrC _ _ _ _ [(6, _), (60, _), (45, _), (7, _), (25, _), (5, _), (4, _), (0, _), (1, _)] _ _
              skip
              exact tr_goto <| tk_hop (hK2 (⟨i, j + 1, R, A1, c1⟩) _ _ (⟨⟨hr1, hr2⟩, by omega, by omega, by omega, by omega, by (try simp); omega, by rw [← hx, zip_gt hi0 (by omega) hj0 (by omega) (by omega), if_neg (show ¬ max (gt L i).1 (gt M j).1 < min (gt L i).2 (gt M j).2 from c45)]; simp, H.drop0⟩) (by first | omega | (dsimp only; omega)) (Sub.cons rfl (Sub.cons rfl (Sub.cons rfl (Sub.cons rfl (Sub.cons rfl Sub.nil))))))
      · skip
        refine tr_skip (hK3 _ _ (TrC.keep [25, 5, 6, 4, 0, 1] ?_))
        show TrC _ _ _ _ [(25, _), (5, _), (6, _), (4, _), (0, _), (1, _)] _ _
        refine tr_seq (fun K17 hK17 => ?_)
        refine tr_seq (fun K18 hK18 => ?_)
        -- region 11: span.go:114
        refine tr_region ?_
        refine tr_val (ov_move rfl rfl) rfl rfl rfl ?_
        refine tr_val (ov_len rfl rfl Try.underlying33 rfl) rfl rfl rfl ?_
        refine tr_val (ov_gtr rfl rfl rfl) rfl rfl rfl ?_
        refine tr_nil (hK18 _ _ (TrC.keep [67, 25, 5, 6, 4, 0, 1] ?_))
        show TrC _ _ _ _ [(67, _), (25, _), (5, _), (6, _), (4, _), (0, _), (1, _)] _ _
        first | refine tr_cond rfl (fun c67 => ?_) (fun c67 => ?_) | refine tr_condb rfl (fun c67 => ?_) (fun c67 => ?_)
        · skip
          refine tr_seq (fun K19 hK19 => ?_)
          -- region 12: span.go:115
          refine tr_region ?_
          refine tr_val (ov_assign rfl rfl) rfl rfl rfl ?_
          refine tr_nil (hK19 _ _ (TrC.keep [4, 67, 25, 5, 6, 0, 1] ?_))
          show TrC _ _ _ _ [(4, _), (67, _), (25, _), (5, _), (6, _), (0, _), (1, _)] _ _
          refine tr_ret (post_ret1 (.inr rfl) rfl rfl ?_)
          have hz := zip_end (L := L) (M := M) (i := i) (j := j) (by omega)
          rw [hz, List.append_nil] at hx
          rw [both_zip (by omega) (by omega) hx, if_pos (by omega)]
          exact ⟨none, 0, rfl, (H.drop0).addNil 40 2 encSpan⟩
        · skip
          refine tr_skip (hK17 _ _ (TrC.keep [67, 25, 5, 6, 4, 0, 1] ?_))
          show TrC _ _ _ _ [(67, _), (25, _), (5, _), (6, _), (4, _), (0, _), (1, _)] _ _
          refine tr_seq (fun K20 hK20 => ?_)
          -- region 13: span.go:117
          refine tr_region ?_
          refine tr_val (ov_move rfl rfl) rfl rfl rfl ?_
          refine tr_val (ov_assign rfl rfl) rfl rfl rfl ?_
          refine tr_nil (hK20 _ _ (TrC.keep [4, 67, 25, 5, 6, 0, 1] ?_))
          show TrC _ _ _ _ [(4, _), (67, _), (25, _), (5, _), (6, _), (0, _), (1, _)] _ _
          refine tr_ret (post_ret1 (.inr rfl) rfl rfl ?_)
          have hz := zip_end (L := L) (M := M) (i := i) (j := j) (by omega)
          rw [hz, List.append_nil] at hx
          rw [both_zip (by omega) (by omega) hx, if_neg (by omega)]
          exact ⟨A1, c1, rfl, H⟩
    · skip
      refine tr_pass rfl rfl rfl ?_
      refine tr_pass rfl rfl rfl ?_
      refine tr_pass rfl rfl rfl ?_
      refine tr_pass rfl rfl rfl ?_
      refine tr_val (ov_pick_f (va := undef) rfl rfl rfl rfl) rfl rfl rfl ?_
      refine tr_nil (hK4 _ _ (TrC.keep [25, 5, 6, 4, 0, 1] ?_))
      show TrC _ _ _ _ [(25, _), (5, _), (6, _), (4, _), (0, _), (1, _)] _ _
      refine tr_cond_f rfl rfl ?_
      refine tr_skip (hK3 _ _ (TrC.keep [25, 5, 6, 4, 0, 1] ?_))
      show TrC _ _ _ _ [(25, _), (5, _), (6, _), (4, _), (0, _), (1, _)] _ _
      refine tr_seq (fun K21 hK21 => ?_)
      refine tr_seq (fun K22 hK22 => ?_)
      -- region 11: span.go:114
      refine tr_region ?_
      refine tr_val (ov_move rfl rfl) rfl rfl rfl ?_
      refine tr_val (ov_len rfl rfl Try.underlying33 rfl) rfl rfl rfl ?_
      refine tr_val (ov_gtr rfl rfl rfl) rfl rfl rfl ?_
      refine tr_nil (hK22 _ _ (TrC.keep [67, 25, 5, 6, 4, 0, 1] ?_))
      show TrC _ _ _ _ [(67, _), (25, _), (5, _), (6, _), (4, _), (0, _), (1, _)] _ _
      first | refine tr_cond rfl (fun c67 => ?_) (fun c67 => ?_) | refine tr_condb rfl (fun c67 => ?_) (fun c67 => ?_)
      · skip
        refine tr_seq (fun K23 hK23 => ?_)
        -- region 12: span.go:115
        refine tr_region ?_
        refine tr_val (ov_assign rfl rfl) rfl rfl rfl ?_
        refine tr_nil (hK23 _ _ (TrC.keep [4, 67, 25, 5, 6, 0, 1] ?_))
        show TrC _ _ _ _ [(4, _), (67, _), (25, _), (5, _), (6, _), (0, _), (1, _)] _ _
        refine tr_ret (post_ret1 (.inr rfl) rfl rfl ?_)
        have hz := zip_end (L := L) (M := M) (i := i) (j := j) (by omega)
        rw [hz, List.append_nil] at hx
        rw [both_zip (by omega) (by omega) hx, if_pos (by omega)]
        exact ⟨none, 0, rfl, (H.drop0).addNil 40 2 encSpan⟩
      · skip
        refine tr_skip (hK21 _ _ (TrC.keep [67, 25, 5, 6, 4, 0, 1] ?_))
        show TrC _ _ _ _ [(67, _), (25, _), (5, _), (6, _), (4, _), (0, _), (1, _)] _ _
        refine tr_seq (fun K24 hK24 => ?_)
        -- region 13: span.go:117
        refine tr_region ?_
        refine tr_val (ov_move rfl rfl) rfl rfl rfl ?_
        refine tr_val (ov_assign rfl rfl) rfl rfl rfl ?_
        refine tr_nil (hK24 _ _ (TrC.keep [4, 67, 25, 5, 6, 0, 1] ?_))
        show TrC _ _ _ _ [(4, _), (67, _), (25, _), (5, _), (6, _), (0, _), (1, _)] _ _
        refine tr_ret (post_ret1 (.inr rfl) rfl rfl ?_)
        have hz := zip_end (L := L) (M := M) (i := i) (j := j) (by omega)
        rw [hz, List.append_nil] at hx
        rw [both_zip (by omega) (by omega) hx, if_neg (by omega)]
        exact ⟨A1, c1, rfl, H⟩
  · intro K25 hS2
    refine tr_seq (fun K26 hK26 => ?_)
    refine tr_seq (fun K27 hK27 => ?_)
    -- region 1: span.go:98
    refine tr_region ?_
    refine tr_val (ov_move rfl rfl) rfl rfl rfl ?_
    refine tr_call (Row_c A c L _ (H.rd0 hR) hL) rfl rfl rfl Try.call38 rfl rfl rfl ?_
    rintro _ w17 ⟨rfl, HC⟩
    have H := H.call0n HC
    refine tr_val (ov_neq rfl rfl rfl) rfl rfl rfl ?_
    refine tr_val (ov_move rfl rfl) rfl rfl rfl ?_
    first | refine tr_split (t := 11) rfl (fun s11 => ?_) (fun s11 => ?_) | refine tr_splitb (t := 11) rfl (fun s11 => ?_) (fun s11 => ?_)
    · skip
      refine tr_pass rfl rfl rfl ?_
      refine tr_pass rfl rfl rfl ?_
      refine tr_pass rfl rfl rfl ?_
      refine tr_val (ov_pick (vb := undef) rfl rfl rfl rfl) rfl rfl rfl ?_
      refine tr_nil (hK27 _ _ (TrC.keep [15, 4, 0, 1] ?_))
      show TrC _ _ _ _ [(15, _), (4, _), (0, _), (1, _)] _ _
      refine tr_cond_t rfl rfl ?_
      refine tr_seq (fun K28 hK28 => ?_)
      -- region 2: span.go:99
      refine tr_region ?_
      refine tr_val (ov_assign rfl rfl) rfl rfl rfl ?_
      refine tr_nil (hK28 _ _ (TrC.keep [4, 15, 0, 1] ?_))
      show TrC _ _ _ _ [(4, _), (15, _), (0, _), (1, _)] _ _
      refine tr_ret (post_ret1 (.inr rfl) rfl rfl ?_)
      rw [show bothV L M = [] by unfold bothV; rw [if_neg (by omega)]]; exact ⟨none, 0, rfl, H⟩
    · skip
      refine tr_val (ov_move rfl rfl) rfl rfl rfl ?_
      refine tr_call (Row_c A2 c2 M _ (H.rd0 hR2) hM) rfl rfl rfl Try.call38 rfl rfl rfl ?_
      rintro _ w18 ⟨rfl, HC⟩
      have H := H.call0n HC
      refine tr_val (ov_neq rfl rfl rfl) rfl rfl rfl ?_
      refine tr_val (ov_pick_f (va := undef) rfl rfl rfl rfl) rfl rfl rfl ?_
      refine tr_nil (hK27 _ _ (TrC.keep [15, 4, 0, 1] ?_))
      show TrC _ _ _ _ [(15, _), (4, _), (0, _), (1, _)] _ _
      first | refine tr_cond rfl (fun c15 => ?_) (fun c15 => ?_) | refine tr_condb rfl (fun c15 => ?_) (fun c15 => ?_)
      · skip
        refine tr_seq (fun K29 hK29 => ?_)
        -- region 2: span.go:99
        refine tr_region ?_
        refine tr_val (ov_assign rfl rfl) rfl rfl rfl ?_
        refine tr_nil (hK29 _ _ (TrC.keep [4, 15, 0, 1] ?_))
        show TrC _ _ _ _ [(4, _), (15, _), (0, _), (1, _)] _ _
        refine tr_ret (post_ret1 (.inr rfl) rfl rfl ?_)
        rw [show bothV L M = [] by unfold bothV; rw [if_neg (by omega)]]; exact ⟨none, 0, rfl, H⟩
      · skip
        refine tr_skip (hK26 _ _ (TrC.keep [15, 4, 0, 1] ?_))
        show TrC _ _ _ _ [(15, _), (4, _), (0, _), (1, _)] _ _
        refine tr_seq (fun K30 hK30 => ?_)
        -- region 3: span.go:101
        refine tr_region ?_
        refine tr_val (ov_assign rfl rfl) rfl rfl rfl ?_
        refine tr_val (ov_assign rfl rfl) rfl rfl rfl ?_
        refine tr_nil (hK30 _ _ (TrC.keep [6, 5, 15, 4, 0, 1] ?_))
        show TrC _ _ _ _ [(6, _), (5, _), (15, _), (4, _), (0, _), (1, _)] _ _
        refine tr_seq (fun K31 hK31 => ?_)
        exact tr_label (hK31 _ _ (hS2 (⟨0, 0, [], none, 0⟩) _ _ (⟨⟨by omega, by omega⟩, by omega, by omega, by omega, by omega, by simp, rfl, H⟩) (Sub.cons rfl (Sub.cons rfl (Sub.cons rfl (Sub.cons rfl (Sub.cons rfl Sub.nil)))))))

/-! curfew/curfewref07.Both -/
set_option maxRecDepth 20000 in
theorem BothR_c (A : Option Addr) (c : Nat) (L : List Sp) (w : World) (hR : Rd w A 2 (L.map encSpan)) (hL : L.length ≤ 4294967296) (A2 : Option Addr) (c2 : Nat) (M : List Sp) (hR2 : Rd w A2 2 (M.map encSpan)) (hM : M.length ≤ 4294967296) : Does Try.prog 47 #[.slice A L.length c, .slice A2 M.length c2] w (fun v w' => ∃ A' c', v = .slice A' (bothV L M).length c' ∧ SH w noBlocks [vec A' c' 40 2 encSpan (bothV L M)] w') := by
  refine does_enter2 Try.func47 rfl Try.ntmps47 rfl ?_
  have H := SH.start w noBlocks
  refine tr_seq (fun K1 hK1 => ?_)
  -- region 0: ref.go:120
  have H := H.addNil 40 2 encSpan
  refine tr_region ?_
  refine tr_val (ov_assign rfl rfl) rfl rfl rfl ?_
  refine tr_nil (hK1 _ _ (TrC.keep [4, 0, 1] ?_))
  show TrC _ _ _ _ [(4, _), (0, _), (1, _)] _ _
  refine tr_seq (fun K2 hK2 => ?_)
  -- region 1: ref.go:121
  refine tr_region ?_
  refine tr_val (ov_assign rfl rfl) rfl rfl rfl ?_
  refine tr_nil (hK2 _ _ (TrC.keep [5, 4, 0, 1] ?_))
  show TrC _ _ _ _ [(5, _), (4, _), (0, _), (1, _)] _ _
  refine tr_seq (fun K3 hK3 => ?_)
  refine tr_seq (fun K4 hK4 => ?_)
  -- region 2: ref.go:122
  refine tr_region ?_
  refine tr_val (ov_move rfl rfl) rfl rfl rfl ?_
  refine tr_call (RowR_c A c L _ (H.rd0 hR) hL) rfl rfl rfl Try.call19 rfl rfl rfl ?_
  rintro _ w1 ⟨rfl, HC⟩
  have H := H.call0n HC
  refine tr_val (ov_neq rfl rfl rfl) rfl rfl rfl ?_
  refine tr_val (ov_move rfl rfl) rfl rfl rfl ?_
  first | refine tr_split (t := 13) rfl (fun s13 => ?_) (fun s13 => ?_) | refine tr_splitb (t := 13) rfl (fun s13 => ?_) (fun s13 => ?_)
  · skip
    refine tr_pass rfl rfl rfl ?_
    refine tr_pass rfl rfl rfl ?_
    refine tr_pass rfl rfl rfl ?_
    refine tr_val (ov_pick (vb := undef) rfl rfl rfl rfl) rfl rfl rfl ?_
    refine tr_nil (hK4 _ _ (TrC.keep [17, 5, 4, 0, 1] ?_))
    show TrC _ _ _ _ [(17, _), (5, _), (4, _), (0, _), (1, _)] _ _
    refine tr_cond_t rfl rfl ?_
    refine tr_seq (fun K5 hK5 => ?_)
    -- region 3: ref.go:123
    refine tr_region ?_
    refine tr_val (ov_assign rfl rfl) rfl rfl rfl ?_
    refine tr_nil (hK5 _ _ (TrC.keep [4, 17, 5, 0, 1] ?_))
    show TrC _ _ _ _ [(4, _), (17, _), (5, _), (0, _), (1, _)] _ _
    refine tr_ret (post_ret1 (.inr rfl) rfl rfl ?_)
    rw [show bothV L M = [] by unfold bothV; rw [if_neg (by omega)]]; exact ⟨none, 0, rfl, H⟩
  · skip
    refine tr_val (ov_move rfl rfl) rfl rfl rfl ?_
    refine tr_call (RowR_c A2 c2 M _ (H.rd0 hR2) hM) rfl rfl rfl Try.call19 rfl rfl rfl ?_
    rintro _ w2 ⟨rfl, HC⟩
    have H := H.call0n HC
    refine tr_val (ov_neq rfl rfl rfl) rfl rfl rfl ?_
    refine tr_val (ov_pick_f (va := undef) rfl rfl rfl rfl) rfl rfl rfl ?_
    refine tr_nil (hK4 _ _ (TrC.keep [17, 5, 4, 0, 1] ?_))
    show TrC _ _ _ _ [(17, _), (5, _), (4, _), (0, _), (1, _)] _ _
    first | refine tr_cond rfl (fun c17 => ?_) (fun c17 => ?_) | refine tr_condb rfl (fun c17 => ?_) (fun c17 => ?_)
    · skip
      refine tr_seq (fun K6 hK6 => ?_)
      -- region 3: ref.go:123
      refine tr_region ?_
      refine tr_val (ov_assign rfl rfl) rfl rfl rfl ?_
      refine tr_nil (hK6 _ _ (TrC.keep [4, 17, 5, 0, 1] ?_))
      show TrC _ _ _ _ [(4, _), (17, _), (5, _), (0, _), (1, _)] _ _
      refine tr_ret (post_ret1 (.inr rfl) rfl rfl ?_)
      rw [show bothV L M = [] by unfold bothV; rw [if_neg (by omega)]]; exact ⟨none, 0, rfl, H⟩
    · skip
      refine tr_skip (hK3 _ _ (TrC.keep [17, 5, 4, 0, 1] ?_))
      show TrC _ _ _ _ [(17, _), (5, _), (4, _), (0, _), (1, _)] _ _
      refine tr_seq (fun K7 hK7 => ?_)
      refine tr_seq (fun K8 hK8 => ?_)
      -- region 4: ref.go:125
      have hz1 := rowV_zero (L := L) (by omega)
      have hz2 := rowV_zero (L := M) (by omega)
      refine tr_region ?_
      refine tr_val (ov_assign rfl rfl) rfl rfl rfl ?_
      refine tr_nil (hK8 _ _ (TrC.keep [6, 17, 5, 4, 0, 1] ?_))
      show TrC _ _ _ _ [(6, _), (17, _), (5, _), (4, _), (0, _), (1, _)] _ _
      refine tr_block ?_
      refine tr_loop_ (X := Int × List Sp × Option Addr × Nat) [17, 4, 0, 1] (fun ⟨i, R, A1, c1⟩ => [(6, .int .i64 i), (5, .slice A1 R.length c1)]) (fun ⟨i, R, A1, c1⟩ w' => 0 ≤ i ∧ i ≤ L.length ∧ R.length ≤ 32 * i ∧ R ++ pairsL (L.drop i.toNat) M = pairsL L M ∧ SH w noBlocks [vec A1 c1 40 2 encSpan R] w') (fun ⟨i, R, A1, c1⟩ => (L.length - i).toNat) (⟨0, [], none, 0⟩) (Sub.cons rfl (Sub.cons rfl (Sub.cons rfl (Sub.cons rfl (Sub.cons rfl (Sub.cons rfl Sub.nil)))))) (⟨by omega, by omega, by simp, rfl, H⟩) ?_
      rintro ⟨i, R, A1, c1⟩ w3 ⟨hi0, hi1, hRl, hx, H⟩ K9 hK9
      show TrC _ _ _ _ [(6, _), (5, _), (17, _), (4, _), (0, _), (1, _)] _ _
      refine tr_seq (fun K10 hK10 => ?_)
      refine tr_seq (fun K11 hK11 => ?_)
      -- region 5: ref.go:125
      refine tr_region ?_
      refine tr_val (ov_move rfl rfl) rfl rfl rfl ?_
      refine tr_val (ov_move rfl rfl) rfl rfl rfl ?_
      refine tr_val (ov_len rfl rfl Try.underlying33 rfl) rfl rfl rfl ?_
      refine tr_val (ov_lss rfl rfl rfl) rfl rfl rfl ?_
      refine tr_nil (hK11 _ _ (TrC.keep [21, 6, 5, 17, 4, 0, 1] ?_))
      show TrC _ _ _ _ [(21, _), (6, _), (5, _), (17, _), (4, _), (0, _), (1, _)] _ _
      first | refine tr_cond rfl (fun c21 => ?_) (fun c21 => ?_) | refine tr_condb rfl (fun c21 => ?_) (fun c21 => ?_)
      · skip
        refine tr_skip (hK10 _ _ (TrC.keep [21, 6, 5, 17, 4, 0, 1] ?_))
        show TrC _ _ _ _ [(21, _), (6, _), (5, _), (17, _), (4, _), (0, _), (1, _)] _ _
        refine tr_seq (fun K12 hK12 => ?_)
        refine tr_block ?_
        refine tr_seq (fun K13 hK13 => ?_)
        -- region 7: ref.go:126
        refine tr_region ?_
        refine tr_val (ov_assign rfl rfl) rfl rfl rfl ?_
        refine tr_nil (hK13 _ _ (TrC.keep [7, 21, 6, 5, 17, 4, 0, 1] ?_))
        show TrC _ _ _ _ [(7, _), (21, _), (6, _), (5, _), (17, _), (4, _), (0, _), (1, _)] _ _
        refine tr_block ?_
        refine tr_loop_ (X := Int × List Sp × Option Addr × Nat) [21, 6, 17, 4, 0, 1] (fun ⟨j, R, A1, c1⟩ => [(7, .int .i64 j), (5, .slice A1 R.length c1)]) (fun ⟨j, R, A1, c1⟩ w' => 0 ≤ j ∧ j ≤ M.length ∧ R.length ≤ 32 * i + j ∧ R ++ (sideL (gt L i) (M.drop j.toNat) ++ pairsL (L.drop (i + 1).toNat) M) = pairsL L M ∧ SH w noBlocks [vec A1 c1 40 2 encSpan R] w') (fun ⟨j, R, A1, c1⟩ => (M.length - j).toNat) (⟨0, R, A1, c1⟩) (Sub.cons rfl (Sub.cons rfl (Sub.cons rfl (Sub.cons rfl (Sub.cons rfl (Sub.cons rfl (Sub.cons rfl (Sub.cons rfl Sub.nil)))))))) (⟨by omega, by omega, by omega, by rw [← hx, pairs_step hi0 (by omega)]; rfl, H⟩) ?_
        rintro ⟨j, R, A1, c1⟩ w4 ⟨hj0, hj1, hRl, hy, H⟩ K14 hK14
        show TrC _ _ _ _ [(7, _), (5, _), (21, _), (6, _), (17, _), (4, _), (0, _), (1, _)] _ _
        refine tr_seq (fun K15 hK15 => ?_)
        refine tr_seq (fun K16 hK16 => ?_)
        -- region 8: ref.go:126
        refine tr_region ?_
        refine tr_val (ov_move rfl rfl) rfl rfl rfl ?_
        refine tr_val (ov_move rfl rfl) rfl rfl rfl ?_
        refine tr_val (ov_len rfl rfl Try.underlying33 rfl) rfl rfl rfl ?_
        refine tr_val (ov_lss rfl rfl rfl) rfl rfl rfl ?_
        refine tr_nil (hK16 _ _ (TrC.keep [27, 7, 5, 21, 6, 17, 4, 0, 1] ?_))
        show TrC _ _ _ _ [(27, _), (7, _), (5, _), (21, _), (6, _), (17, _), (4, _), (0, _), (1, _)] _ _
        first | refine tr_cond rfl (fun c27 => ?_) (fun c27 => ?_) | refine tr_condb rfl (fun c27 => ?_) (fun c27 => ?_)
        · skip
          refine tr_skip (hK15 _ _ (TrC.keep [27, 7, 5, 21, 6, 17, 4, 0, 1] ?_))
          show TrC _ _ _ _ [(27, _), (7, _), (5, _), (21, _), (6, _), (17, _), (4, _), (0, _), (1, _)] _ _
          refine tr_seq (fun K17 hK17 => ?_)
          refine tr_block ?_
          refine tr_seq (fun K18 hK18 => ?_)
          -- region 10: ref.go:127
          refine tr_held (fun w' => ∃ rs, SH w noBlocks rs w') mixed rfl H ?_
          intro w5 H
          refine th_take 0 rfl (by kernel_rfl) (by kernel_rfl) (by kernel_rfl) (⟨_, H⟩) (fun _ hS => ov_move rfl rfl) rfl rfl rfl ?_
          refine th_take 1 rfl (by kernel_rfl) (by kernel_rfl) (by kernel_rfl) (⟨_, H⟩) (fun _ hS => ov_move rfl rfl) rfl rfl rfl ?_
          refine th_take 2 rfl (by kernel_rfl) (by kernel_rfl) (by kernel_rfl) (⟨_, H⟩) (fun _ hS => ov_indexAddrR (rdS hS hR) rfl Try.underlying33 (Try.sizeOf40 _) rfl rfl (by omega) (by omega)) rfl rfl rfl ?_
          refine th_take 3 rfl (by kernel_rfl) (by kernel_rfl) (by kernel_rfl) (⟨_, H⟩) (fun _ hS => ld_Span (rdS hS hR) rfl (Try.isAgg40 _) (Try.sizeOf40 _) rfl (by omega) (by omega)) rfl rfl rfl ?_
          refine th_take 4 rfl (by kernel_rfl) (by kernel_rfl) (by kernel_rfl) (⟨_, H⟩) (fun _ hS => ov_move rfl rfl) rfl rfl rfl ?_
          refine th_take 5 rfl (by kernel_rfl) (by kernel_rfl) (by kernel_rfl) (⟨_, H⟩) (fun _ hS => ov_move rfl rfl) rfl rfl rfl ?_
          refine th_take 6 rfl (by kernel_rfl) (by kernel_rfl) (by kernel_rfl) (⟨_, H⟩) (fun _ hS => ov_indexAddrR (rdS hS hR2) rfl Try.underlying33 (Try.sizeOf40 _) rfl rfl (by omega) (by omega)) rfl rfl rfl ?_
          refine th_take 7 rfl (by kernel_rfl) (by kernel_rfl) (by kernel_rfl) (⟨_, H⟩) (fun _ hS => ov_fieldAddr rfl Try.underlying40 rfl (Try.sizeOf2 _) (by decide) rfl) rfl rfl rfl ?_
          refine th_take 8 rfl (by kernel_rfl) (by kernel_rfl) (by kernel_rfl) (⟨_, H⟩) (fun _ hS => ld_Span_0 (rdS hS hR2) rfl (Try.isAgg2 _) rfl (by omega) (by omega)) rfl rfl rfl ?_
          refine th_take 9 rfl (by kernel_rfl) (by kernel_rfl) (by kernel_rfl) (⟨_, H⟩) (fun _ hS => ov_move rfl rfl) rfl rfl rfl ?_
          refine th_take 10 rfl (by kernel_rfl) (by kernel_rfl) (by kernel_rfl) (⟨_, H⟩) (fun _ hS => ov_move rfl rfl) rfl rfl rfl ?_
          refine th_take 11 rfl (by kernel_rfl) (by kernel_rfl) (by kernel_rfl) (⟨_, H⟩) (fun _ hS => ov_indexAddrR (rdS hS hR2) rfl Try.underlying33 (Try.sizeOf40 _) rfl rfl (by omega) (by omega)) rfl rfl rfl ?_
          refine th_take 12 rfl (by kernel_rfl) (by kernel_rfl) (by kernel_rfl) (⟨_, H⟩) (fun _ hS => ov_fieldAddr rfl Try.underlying40 rfl (Try.sizeOf2 _) (by decide) rfl) rfl rfl rfl ?_
          refine th_take 13 rfl (by kernel_rfl) (by kernel_rfl) (by kernel_rfl) (⟨_, H⟩) (fun _ hS => ld_Span_1 (rdS hS hR2) rfl (Try.isAgg2 _) rfl (by omega) (by omega)) rfl rfl rfl ?_
          refine th_two 14 18 (by kernel_rfl) ?_ ?_
          · skip
            refine tw_call (part_c (gt L i) (gt M j).1 (gt M j).2 _) rfl rfl rfl rfl Try.call70 rfl rfl rfl ?_
            rintro _ w6 ⟨rfl, HC⟩
            have H := H.call0n HC
            refine ⟨⟨_, H⟩, ?_⟩
            refine th_take 15 rfl (by kernel_rfl) (by kernel_rfl) (by kernel_rfl) (⟨_, H⟩) (fun _ hS => ov_move rfl rfl) rfl rfl rfl ?_
            refine th_take 16 rfl (by kernel_rfl) (by kernel_rfl) (by kernel_rfl) (⟨_, H⟩) (fun _ hS => ov_extract rfl rfl rfl) rfl rfl rfl ?_
            refine th_take 17 rfl (by kernel_rfl) (by kernel_rfl) (by kernel_rfl) (⟨_, H⟩) (fun _ hS => ov_extract rfl rfl rfl) rfl rfl rfl ?_
            refine th_one 18 (by kernel_rfl) ?_
            refine tw_alloc H rfl rfl (Try.zeroValue40 _) rfl rfl rfl rfl ?_
            intro b1 w7 hb1 H
            refine ⟨⟨_, H⟩, ?_⟩
            refine th_one 19 (by kernel_rfl) ?_
            first | (refine tw_storeW H.get0 rfl rfl (Try.sizeOf40 _) rfl rfl rfl rfl rfl rfl rfl rfl ?_; intro w8 U; have H := H.upd0 U; clear U) | (refine tw_storeW H.get1 rfl rfl (Try.sizeOf40 _) rfl rfl rfl rfl rfl rfl rfl rfl ?_; intro w8 U; have H := H.upd1 U; clear U) | (refine tw_storeW H.get2 rfl rfl (Try.sizeOf40 _) rfl rfl rfl rfl rfl rfl rfl rfl ?_; intro w8 U; have H := H.upd2 U; clear U) | (refine tw_storeW H.get3 rfl rfl (Try.sizeOf40 _) rfl rfl rfl rfl rfl rfl rfl rfl ?_; intro w8 U; have H := H.upd3 U; clear U) | (refine tw_storeW H.get4 rfl rfl (Try.sizeOf40 _) rfl rfl rfl rfl rfl rfl rfl rfl ?_; intro w8 U; have H := H.upd4 U; clear U) | (refine tw_storeW H.get5 rfl rfl (Try.sizeOf40 _) rfl rfl rfl rfl rfl rfl rfl rfl ?_; intro w8 U; have H := H.upd5 U; clear U)
            refine ⟨⟨_, H⟩, ?_⟩
            refine th_take 20 rfl (by kernel_rfl) (by kernel_rfl) (by kernel_rfl) (⟨_, H⟩) (fun _ hS => ov_assign rfl rfl) rfl rfl rfl ?_
            refine th_done (by kernel_rfl) ?_
            refine hK18 _ _ (TrC.keep [9, 8, 27, 7, 5, 21, 6, 17, 4, 0, 1] ?_)
            show TrC _ _ _ _ [(9, _), (8, _), (27, _), (7, _), (5, _), (21, _), (6, _), (17, _), (4, _), (0, _), (1, _)] _ _
            refine tr_seq (fun K19 hK19 => ?_)
            -- region 11: ref.go:128
            refine tr_region ?_
            refine tr_val (ov_move rfl rfl) rfl rfl rfl ?_
            refine tr_nil (hK19 _ _ (TrC.keep [48, 8, 27, 7, 5, 21, 6, 17, 4, 0, 1] ?_))
            show TrC _ _ _ _ [(48, _), (8, _), (27, _), (7, _), (5, _), (21, _), (6, _), (17, _), (4, _), (0, _), (1, _)] _ _
            first | refine tr_cond rfl (fun c48 => ?_) (fun c48 => ?_) | refine tr_condb rfl (fun c48 => ?_) (fun c48 => ?_)
            · skip
              -- region 12: ref.go:129
              refine tr_region ?_
              refine tr_val (ov_move rfl rfl) rfl rfl rfl ?_
              first | refine tr_val (ov_load_blkN H.get0 rfl (Try.isAgg40 _) (Try.sizeOf40 _) rfl rfl rfl) rfl rfl rfl ?_ | refine tr_val (ov_load_blkN H.get1 rfl (Try.isAgg40 _) (Try.sizeOf40 _) rfl rfl rfl) rfl rfl rfl ?_ | refine tr_val (ov_load_blkN H.get2 rfl (Try.isAgg40 _) (Try.sizeOf40 _) rfl rfl rfl) rfl rfl rfl ?_ | refine tr_val (ov_load_blkN H.get3 rfl (Try.isAgg40 _) (Try.sizeOf40 _) rfl rfl rfl) rfl rfl rfl ?_ | refine tr_val (ov_load_blkN H.get4 rfl (Try.isAgg40 _) (Try.sizeOf40 _) rfl rfl rfl) rfl rfl rfl ?_ | refine tr_val (ov_load_blkN H.get5 rfl (Try.isAgg40 _) (Try.sizeOf40 _) rfl rfl rfl) rfl rfl rfl ?_
              refine tr_buildSlice H rfl Try.underlying33 info40 rfl (fun ρ k => bs1 k rfl) (by decide) (by decide) (fill_Span_1 _ _) rfl rfl rfl ?_
              intro b2 w9 hb2 H
              refine tr_append H.get2 (rd_blk [common (gt L i) (gt M j).1 (gt M j).2] H.get0 rfl lenSpan) rfl rfl rfl Try.underlying33 info40 rfl rfl (show Try.t40.bytes = 16 from rfl) rfl (by decide) lenSpan oneSpan (by simp; omega) (by simp [maxLen]; omega) rfl rfl rfl ?_
              intro A' c' w10 U; have H := H.upd2 U; clear U
              refine tr_val (ov_assign rfl rfl) rfl rfl rfl ?_
              refine tr_nil (hK17 _ _ (TrC.keep [5, 48, 8, 27, 7, 21, 6, 17, 4, 0, 1] ?_))
              show TrC _ _ _ _ [(5, _), (48, _), (8, _), (27, _), (7, _), (21, _), (6, _), (17, _), (4, _), (0, _), (1, _)] _ _
              -- region 9: ref.go:126
              refine tr_region ?_
              refine tr_val (ov_move rfl rfl) rfl rfl rfl ?_
              refine tr_val (ov_add rfl rfl rfl (w64 (by omega))) rfl rfl rfl ?_
              refine tr_val (ov_assign rfl rfl) rfl rfl rfl ?_
              skip
              exact tr_nil (hK14 (⟨j + 1, R ++ [common (gt L i) (gt M j).1 (gt M j).2], A', c'⟩) _ _ (⟨by omega, by omega, by simp; omega, by rw [← hy, side_pos hj0 (by omega) (show max (gt L i).1 (gt M j).1 < min (gt L i).2 (gt M j).2 from c48)]; simp, H.drop0.drop0⟩) (by first | omega | (dsimp only; omega)) (Sub.cons rfl (Sub.cons rfl (Sub.cons rfl (Sub.cons rfl (Sub.cons rfl (Sub.cons rfl (Sub.cons rfl (Sub.cons rfl Sub.nil)))))))))
            · skip
              refine tr_skip (hK17 _ _ (TrC.keep [48, 8, 27, 7, 5, 21, 6, 17, 4, 0, 1] ?_))
              show TrC _ _ _ _ [(48, _), (8, _), (27, _), (7, _), (5, _), (21, _), (6, _), (17, _), (4, _), (0, _), (1, _)] _ _
              -- region 9: ref.go:126
              refine tr_region ?_
              refine tr_val (ov_move rfl rfl) rfl rfl rfl ?_
              refine tr_val (ov_add rfl rfl rfl (w64 (by omega))) rfl rfl rfl ?_
              refine tr_val (ov_assign rfl rfl) rfl rfl rfl ?_
              skip
              exact tr_nil (hK14 (⟨j + 1, R, A1, c1⟩) _ _ (⟨by omega, by omega, by omega, by rw [← hy, side_neg hj0 (by omega) (show ¬ max (gt L i).1 (gt M j).1 < min (gt L i).2 (gt M j).2 from c48)], H.drop0⟩) (by first | omega | (dsimp only; omega)) (Sub.cons rfl (Sub.cons rfl (Sub.cons rfl (Sub.cons rfl (Sub.cons rfl (Sub.cons rfl (Sub.cons rfl (Sub.cons rfl Sub.nil)))))))))
          · skip
            refine tw_alloc H rfl rfl (Try.zeroValue40 _) rfl rfl rfl rfl ?_
            intro b3 w11 hb3 H
            refine ⟨⟨_, H⟩, ?_⟩
            refine th_one 14 (by kernel_rfl) ?_
            refine tw_call (part_c (gt L i) (gt M j).1 (gt M j).2 _) rfl rfl rfl rfl Try.call70 rfl rfl rfl ?_
            rintro _ w12 ⟨rfl, HC⟩
            have H := H.call0n HC
            refine ⟨⟨_, H⟩, ?_⟩
            refine th_take 15 rfl (by kernel_rfl) (by kernel_rfl) (by kernel_rfl) (⟨_, H⟩) (fun _ hS => ov_move rfl rfl) rfl rfl rfl ?_
            refine th_take 16 rfl (by kernel_rfl) (by kernel_rfl) (by kernel_rfl) (⟨_, H⟩) (fun _ hS => ov_extract rfl rfl rfl) rfl rfl rfl ?_
            refine th_take 17 rfl (by kernel_rfl) (by kernel_rfl) (by kernel_rfl) (⟨_, H⟩) (fun _ hS => ov_extract rfl rfl rfl) rfl rfl rfl ?_
            refine th_one 19 (by kernel_rfl) ?_
            first | (refine tw_storeW H.get0 rfl rfl (Try.sizeOf40 _) rfl rfl rfl rfl rfl rfl rfl rfl ?_; intro w13 U; have H := H.upd0 U; clear U) | (refine tw_storeW H.get1 rfl rfl (Try.sizeOf40 _) rfl rfl rfl rfl rfl rfl rfl rfl ?_; intro w13 U; have H := H.upd1 U; clear U) | (refine tw_storeW H.get2 rfl rfl (Try.sizeOf40 _) rfl rfl rfl rfl rfl rfl rfl rfl ?_; intro w13 U; have H := H.upd2 U; clear U) | (refine tw_storeW H.get3 rfl rfl (Try.sizeOf40 _) rfl rfl rfl rfl rfl rfl rfl rfl ?_; intro w13 U; have H := H.upd3 U; clear U) | (refine tw_storeW H.get4 rfl rfl (Try.sizeOf40 _) rfl rfl rfl rfl rfl rfl rfl rfl ?_; intro w13 U; have H := H.upd4 U; clear U) | (refine tw_storeW H.get5 rfl rfl (Try.sizeOf40 _) rfl rfl rfl rfl rfl rfl rfl rfl ?_; intro w13 U; have H := H.upd5 U; clear U)
            refine ⟨⟨_, H⟩, ?_⟩
            refine th_take 20 rfl (by kernel_rfl) (by kernel_rfl) (by kernel_rfl) (⟨_, H⟩) (fun _ hS => ov_assign rfl rfl) rfl rfl rfl ?_
            refine th_done (by kernel_rfl) ?_
            refine hK18 _ _ (TrC.keep [9, 8, 27, 7, 5, 21, 6, 17, 4, 0, 1] ?_)
            show TrC _ _ _ _ [(9, _), (8, _), (27, _), (7, _), (5, _), (21, _), (6, _), (17, _), (4, _), (0, _), (1, _)] _ _
            refine tr_seq (fun K20 hK20 => ?_)
            -- region 11: ref.go:128
            refine tr_region ?_
            refine tr_val (ov_move rfl rfl) rfl rfl rfl ?_
            refine tr_nil (hK20 _ _ (TrC.keep [48, 8, 27, 7, 5, 21, 6, 17, 4, 0, 1] ?_))
            show TrC _ _ _ _ [(48, _), (8, _), (27, _), (7, _), (5, _), (21, _), (6, _), (17, _), (4, _), (0, _), (1, _)] _ _
            first | refine tr_cond rfl (fun c48 => ?_) (fun c48 => ?_) | refine tr_condb rfl (fun c48 => ?_) (fun c48 => ?_)
            · skip
              -- region 12: ref.go:129
              refine tr_region ?_
              refine tr_val (ov_move rfl rfl) rfl rfl rfl ?_
              first | refine tr_val (ov_load_blkN H.get0 rfl (Try.isAgg40 _) (Try.sizeOf40 _) rfl rfl rfl) rfl rfl rfl ?_ | refine tr_val (ov_load_blkN H.get1 rfl (Try.isAgg40 _) (Try.sizeOf40 _) rfl rfl rfl) rfl rfl rfl ?_ | refine tr_val (ov_load_blkN H.get2 rfl (Try.isAgg40 _) (Try.sizeOf40 _) rfl rfl rfl) rfl rfl rfl ?_ | refine tr_val (ov_load_blkN H.get3 rfl (Try.isAgg40 _) (Try.sizeOf40 _) rfl rfl rfl) rfl rfl rfl ?_ | refine tr_val (ov_load_blkN H.get4 rfl (Try.isAgg40 _) (Try.sizeOf40 _) rfl rfl rfl) rfl rfl rfl ?_ | refine tr_val (ov_load_blkN H.get5 rfl (Try.isAgg40 _) (Try.sizeOf40 _) rfl rfl rfl) rfl rfl rfl ?_
              refine tr_buildSlice H rfl Try.underlying33 info40 rfl (fun ρ k => bs1 k rfl) (by decide) (by decide) (fill_Span_1 _ _) rfl rfl rfl ?_
              intro b4 w14 hb4 H
              refine tr_append H.get2 (rd_blk [common (gt L i) (gt M j).1 (gt M j).2] H.get0 rfl lenSpan) rfl rfl rfl Try.underlying33 info40 rfl rfl (show Try.t40.bytes = 16 from rfl) rfl (by decide) lenSpan oneSpan (by simp; omega) (by simp [maxLen]; omega) rfl rfl rfl ?_
              intro A' c' w15 U; have H := H.upd2 U; clear U
              refine tr_val (ov_assign rfl rfl) rfl rfl rfl ?_
              refine tr_nil (hK17 _ _ (TrC.keep [5, 48, 8, 27, 7, 21, 6, 17, 4, 0, 1] ?_))
              show TrC _ _ _ _ [(5, _), (48, _), (8, _), (27, _), (7, _), (21, _), (6, _), (17, _), (4, _), (0, _), (1, _)] _ _
              -- region 9: ref.go:126
              refine tr_region ?_
              refine tr_val (ov_move rfl rfl) rfl rfl rfl ?_
              refine tr_val (ov_add rfl rfl rfl (w64 (by omega))) rfl rfl rfl ?_
              refine tr_val (ov_assign rfl rfl) rfl rfl rfl ?_
              skip
              exact tr_nil (hK14 (⟨j + 1, R ++ [common (gt L i) (gt M j).1 (gt M j).2], A', c'⟩) _ _ (⟨by omega, by omega, by simp; omega, by rw [← hy, side_pos hj0 (by omega) (show max (gt L i).1 (gt M j).1 < min (gt L i).2 (gt M j).2 from c48)]; simp, H.drop0.drop0⟩) (by first | omega | (dsimp only; omega)) (Sub.cons rfl (Sub.cons rfl (Sub.cons rfl (Sub.cons rfl (Sub.cons rfl (Sub.cons rfl (Sub.cons rfl (Sub.cons rfl Sub.nil)))))))))
            · skip
              refine tr_skip (hK17 _ _ (TrC.keep [48, 8, 27, 7, 5, 21, 6, 17, 4, 0, 1] ?_))
              show TrC _ _ _ _ [(48, _), (8, _), (27, _), (7, _), (5, _), (21, _), (6, _), (17, _), (4, _), (0, _), (1, _)] _ _
              -- region 9: ref.go:126
              refine tr_region ?_
              refine tr_val (ov_move rfl rfl) rfl rfl rfl ?_
              refine tr_val (ov_add rfl rfl rfl (w64 (by omega))) rfl rfl rfl ?_
              refine tr_val (ov_assign rfl rfl) rfl rfl rfl ?_
              skip
              exact tr_nil (hK14 (⟨j + 1, R, A1, c1⟩) _ _ (⟨by omega, by omega, by omega, by rw [← hy, side_neg hj0 (by omega) (show ¬ max (gt L i).1 (gt M j).1 < min (gt L i).2 (gt M j).2 from c48)], H.drop0⟩) (by first | omega | (dsimp only; omega)) (Sub.cons rfl (Sub.cons rfl (Sub.cons rfl (Sub.cons rfl (Sub.cons rfl (Sub.cons rfl (Sub.cons rfl (Sub.cons rfl Sub.nil)))))))))
        · skip
          refine tr_exit (hK12 _ _ (TrC.keep [27, 7, 5, 21, 6, 17, 4, 0, 1] ?_))
          show TrC _ _ _ _ [(27, _), (7, _), (5, _), (21, _), (6, _), (17, _), (4, _), (0, _), (1, _)] _ _
          -- region 6: ref.go:125
          refine tr_region ?_
          refine tr_val (ov_move rfl rfl) rfl rfl rfl ?_
          refine tr_val (ov_add rfl rfl rfl (w64 (by omega))) rfl rfl rfl ?_
          refine tr_val (ov_assign rfl rfl) rfl rfl rfl ?_
          skip
          exact tr_nil (hK9 (⟨i + 1, R, A1, c1⟩) _ _ (⟨by omega, by omega, by omega, by rw [← hy, side_end (by omega)]; rfl, H⟩) (by first | omega | (dsimp only; omega)) (Sub.cons rfl (Sub.cons rfl (Sub.cons rfl (Sub.cons rfl (Sub.cons rfl (Sub.cons rfl Sub.nil)))))))
      · skip
        refine tr_exit (hK7 _ _ (TrC.keep [21, 6, 5, 17, 4, 0, 1] ?_))
        show TrC _ _ _ _ [(21, _), (6, _), (5, _), (17, _), (4, _), (0, _), (1, _)] _ _
        refine tr_seq (fun K21 hK21 => ?_)
        refine tr_seq (fun K22 hK22 => ?_)
        -- region 13: ref.go:133
        refine tr_region ?_
        refine tr_val (ov_move rfl rfl) rfl rfl rfl ?_
        refine tr_val (ov_len rfl rfl Try.underlying33 rfl) rfl rfl rfl ?_
        refine tr_val (ov_gtr rfl rfl rfl) rfl rfl rfl ?_
        refine tr_nil (hK22 _ _ (TrC.keep [55, 21, 6, 5, 17, 4, 0, 1] ?_))
        show TrC _ _ _ _ [(55, _), (21, _), (6, _), (5, _), (17, _), (4, _), (0, _), (1, _)] _ _
        first | refine tr_cond rfl (fun c55 => ?_) (fun c55 => ?_) | refine tr_condb rfl (fun c55 => ?_) (fun c55 => ?_)
        · skip
          refine tr_seq (fun K23 hK23 => ?_)
          -- region 14: ref.go:134
          refine tr_region ?_
          refine tr_val (ov_assign rfl rfl) rfl rfl rfl ?_
          refine tr_nil (hK23 _ _ (TrC.keep [4, 55, 21, 6, 5, 17, 0, 1] ?_))
          show TrC _ _ _ _ [(4, _), (55, _), (21, _), (6, _), (5, _), (17, _), (0, _), (1, _)] _ _
          refine tr_ret (post_ret1 (.inr rfl) rfl rfl ?_)
          have hz := pairs_end (L := L) (M := M) (i := i) (by omega)
          rw [hz, List.append_nil] at hx
          rw [show bothV L M = [] by unfold bothV; rw [if_pos (by omega), ← hx, if_pos (by omega)]]
          exact ⟨none, 0, rfl, (H.drop0).addNil 40 2 encSpan⟩
        · skip
          refine tr_skip (hK21 _ _ (TrC.keep [55, 21, 6, 5, 17, 4, 0, 1] ?_))
          show TrC _ _ _ _ [(55, _), (21, _), (6, _), (5, _), (17, _), (4, _), (0, _), (1, _)] _ _
          refine tr_seq (fun K24 hK24 => ?_)
          -- region 15: ref.go:136
          refine tr_region ?_
          refine tr_val (ov_move rfl rfl) rfl rfl rfl ?_
          refine tr_val (ov_assign rfl rfl) rfl rfl rfl ?_
          refine tr_nil (hK24 _ _ (TrC.keep [4, 55, 21, 6, 5, 17, 0, 1] ?_))
          show TrC _ _ _ _ [(4, _), (55, _), (21, _), (6, _), (5, _), (17, _), (0, _), (1, _)] _ _
          refine tr_ret (post_ret1 (.inr rfl) rfl rfl ?_)
          have hz := pairs_end (L := L) (M := M) (i := i) (by omega)
          rw [hz, List.append_nil] at hx
          rw [show bothV L M = R by unfold bothV; rw [if_pos (by omega), ← hx, if_neg (by omega)]]
          exact ⟨A1, c1, rfl, H⟩

/-! slices.Clone[[]curfew/api.Span,curfew/api.Span] -/
set_option maxRecDepth 20000 in
theorem Clone_c (A : Option Addr) (c : Nat) (L : List Sp) (w : World) (hR : Rd w A 2 (L.map encSpan)) (hL : L.length ≤ 4294967296) : Does Try.prog 54 #[.slice A L.length c] w (fun v w' => ∃ A' c', v = .slice A' L.length c' ∧ SH w noBlocks [vec A' c' 40 2 encSpan L] w') := by
  refine does_enter1 Try.func54 rfl Try.ntmps54 rfl ?_
  have H := SH.start w noBlocks
  refine tr_seq (fun K1 hK1 => ?_)
  -- region 0: slices.go:355
  refine tr_region ?_
  refine tr_val (ov_assign rfl rfl) rfl rfl rfl ?_
  refine tr_nil (hK1 _ _ (TrC.keep [2, 0] ?_))
  show TrC _ _ _ _ [(2, _), (0, _)] _ _
  refine tr_seq (fun K2 hK2 => ?_)
  refine tr_seq (fun K3 hK3 => ?_)
  -- region 1: slices.go:357
  refine tr_region ?_
  refine tr_val (ov_move rfl rfl) rfl rfl rfl ?_
  refine tr_val (ov_seql_nil rfl Try.underlying33 rfl rfl) rfl rfl rfl ?_
  refine tr_nil (hK3 _ _ (TrC.keep [4, 2, 0] ?_))
  show TrC _ _ _ _ [(4, _), (2, _), (0, _)] _ _
  first | refine tr_cond rfl (fun c4 => ?_) (fun c4 => ?_) | refine tr_condb rfl (fun c4 => ?_) (fun c4 => ?_)
  · skip
    refine tr_seq (fun K4 hK4 => ?_)
    -- region 2: slices.go:358
    refine tr_region ?_
    refine tr_val (ov_assign rfl rfl) rfl rfl rfl ?_
    refine tr_nil (hK4 _ _ (TrC.keep [2, 4, 0] ?_))
    show TrC _ _ _ _ [(2, _), (4, _), (0, _)] _ _
    have hL0 := rd_none hR c4
    subst hL0
    refine tr_ret (post_ret1 (.inr rfl) rfl rfl ?_)
    exact ⟨none, 0, rfl, H.addNil 40 2 encSpan⟩
  · skip
    refine tr_skip (hK2 _ _ (TrC.keep [4, 2, 0] ?_))
    show TrC _ _ _ _ [(4, _), (2, _), (0, _)] _ _
    refine tr_seq (fun K5 hK5 => ?_)
    -- region 3: slices.go:362
    refine tr_region ?_
    refine tr_buildSlice0 H rfl Try.underlying33 info40 rfl rfl rfl ?_
    intro b1 w1 hb1 H
    have H := H.upd0 (upd_vec_of_blk (L := ([] : List Sp)) (enc := encSpan) (sz := 2) H.get0 rfl lenSpan (by simp))
    refine tr_val (ov_move rfl rfl) rfl rfl rfl ?_
    refine tr_append H.get0 (H.rd0 hR) rfl rfl rfl Try.underlying33 info40 rfl rfl (show Try.t40.bytes = 16 from rfl) rfl (by decide) lenSpan oneSpan (by simp; omega) (by simp [maxLen]; omega) rfl rfl rfl ?_
    intro A' c' w1 U; have H := H.upd0 U; clear U
    refine tr_val (ov_assign rfl rfl) rfl rfl rfl ?_
    refine tr_nil (hK5 _ _ (TrC.keep [2, 4, 0] ?_))
    show TrC _ _ _ _ [(2, _), (4, _), (0, _)] _ _
    refine tr_ret (post_ret1 (.inr rfl) rfl rfl ?_)
    exact ⟨A', c', rfl, H⟩

/-! curfew/span.Join$1 -/
set_option maxRecDepth 20000 in
theorem Join1_c (s : Sp) (w : World) : Does Try.prog 62 #[.agg #[.int .i64 s.1, .int .i64 s.2]] w (fun v w' => v = .bool (decide (¬ RightP s)) ∧ SH w noBlocks [] w') := by
  refine does_enter1 Try.func62 rfl Try.ntmps62 rfl ?_
  have H := SH.start w noBlocks
  refine tr_seq (fun K1 hK1 => ?_)
  -- region 0: span.go:122
  refine tr_region ?_
  refine tr_box H rfl rfl rfl rfl rfl rfl ?_
  intro b1 w1 hb1 H
  refine tr_val (ov_assign rfl rfl) rfl rfl rfl ?_
  refine tr_nil (hK1 _ _ (TrC.keep [2, 1] ?_))
  show TrC _ _ _ _ [(2, _), (1, _)] _ _
  refine tr_seq (fun K2 hK2 => ?_)
  -- region 1: span.go:122
  refine tr_region ?_
  first | refine tr_val (ov_load_blkN H.get0 rfl (Try.isAgg40 _) (Try.sizeOf40 _) rfl rfl rfl) rfl rfl rfl ?_ | refine tr_val (ov_load_blkN H.get1 rfl (Try.isAgg40 _) (Try.sizeOf40 _) rfl rfl rfl) rfl rfl rfl ?_ | refine tr_val (ov_load_blkN H.get2 rfl (Try.isAgg40 _) (Try.sizeOf40 _) rfl rfl rfl) rfl rfl rfl ?_ | refine tr_val (ov_load_blkN H.get3 rfl (Try.isAgg40 _) (Try.sizeOf40 _) rfl rfl rfl) rfl rfl rfl ?_ | refine tr_val (ov_load_blkN H.get4 rfl (Try.isAgg40 _) (Try.sizeOf40 _) rfl rfl rfl) rfl rfl rfl ?_ | refine tr_val (ov_load_blkN H.get5 rfl (Try.isAgg40 _) (Try.sizeOf40 _) rfl rfl rfl) rfl rfl rfl ?_
  refine tr_call (Right_c s _) rfl rfl rfl Try.call35 rfl rfl rfl ?_
  rintro _ w2 ⟨rfl, HC⟩
  have H := H.call0n HC
  first | refine tr_val (ov_not rfl rfl) rfl rfl rfl ?_ | refine tr_val (ov_notb rfl rfl) rfl rfl rfl ?_
  refine tr_val (ov_assign rfl rfl) rfl rfl rfl ?_
  refine tr_nil (hK2 _ _ (TrC.keep [2] ?_))
  show TrC _ _ _ _ [(2, _)] _ _
  refine tr_ret (post_ret1 (.inr rfl) rfl rfl ?_)
  exact ⟨rfl, H.drop0⟩

/-! curfew/span.Join -/
set_option maxRecDepth 20000 in
theorem Join_c (A : Option Addr) (c : Nat) (L : List Sp) (w : World) (hR : Rd w A 2 (L.map encSpan)) (hL : L.length ≤ 4294967296) : Does Try.prog 36 #[.slice A L.length c] w (fun v w' => ∃ A' c' R, v = .slice A' R.length c' ∧ JoinOf L R ∧ SH w noBlocks [vec A' c' 40 2 encSpan R] w') := by
  refine does_enter1 Try.func36 rfl Try.ntmps36 rfl ?_
  have H := SH.start w noBlocks
  refine tr_seq (fun K1 hK1 => ?_)
  -- region 0: span.go:121
  refine tr_region ?_
  refine tr_val (ov_assign rfl rfl) rfl rfl rfl ?_
  refine tr_nil (hK1 _ _ (TrC.keep [2, 0] ?_))
  show TrC _ _ _ _ [(2, _), (0, _)] _ _
  refine tr_seq (fun K2 hK2 => ?_)
  refine tr_seq (fun K3 hK3 => ?_)
  -- region 1: span.go:122
  refine tr_region ?_
  refine tr_val (ov_move rfl rfl) rfl rfl rfl ?_
  refine tr_call (ContainsFunc_c A c L _ (H.rd0 hR) hL 62 [] (fun s => decide (¬ RightP s)) Try.call62 (fun s w1 h => Join1_c s w1)) rfl rfl rfl Try.call61 rfl rfl rfl ?_
  rintro _ w1 ⟨rfl, HC⟩
  have H := H.call0n HC
  refine tr_nil (hK3 _ _ (TrC.keep [8, 2, 0] ?_))
  show TrC _ _ _ _ [(8, _), (2, _), (0, _)] _ _
  first | refine tr_cond rfl (fun c8 => ?_) (fun c8 => ?_) | refine tr_condb rfl (fun c8 => ?_) (fun c8 => ?_)
  · skip
    refine tr_seq (fun K4 hK4 => ?_)
    -- region 2: span.go:123
    refine tr_region ?_
    refine tr_val (ov_assign rfl rfl) rfl rfl rfl ?_
    refine tr_nil (hK4 _ _ (TrC.keep [2, 8, 0] ?_))
    show TrC _ _ _ _ [(2, _), (8, _), (0, _)] _ _
    refine tr_ret (post_ret1 (.inr rfl) rfl rfl ?_)
    refine ⟨none, 0, [], rfl, .inl ⟨?_, rfl⟩, H.addNil 40 2 encSpan⟩
    obtain ⟨s, hs, h⟩ := List.any_eq_true.mp c8
    exact ⟨s, hs, by simpa using h⟩
  · skip
    refine tr_skip (hK2 _ _ (TrC.keep [8, 2, 0] ?_))
    show TrC _ _ _ _ [(8, _), (2, _), (0, _)] _ _
    refine tr_seq (fun K5 hK5 => ?_)
    -- region 3: span.go:125
    have hall : ∀ s, s ∈ L → RightP s := fun s hs => by
      have := List.any_eq_false.mp c8 s hs
      simpa using this
    refine tr_region ?_
    refine tr_val (ov_move rfl rfl) rfl rfl rfl ?_
    refine tr_call (Clone_c A c L _ (H.rd0 hR) hL) rfl rfl rfl Try.call54 rfl rfl rfl ?_
    rintro _ w2 ⟨A0, c0, rfl, HC⟩
    have H := H.call0r HC
    refine tr_val (ov_assign rfl rfl) rfl rfl rfl ?_
    refine tr_nil (hK5 _ _ (TrC.keep [3, 8, 2, 0] ?_))
    show TrC _ _ _ _ [(3, _), (8, _), (2, _), (0, _)] _ _
    refine tr_seq (fun K6 hK6 => ?_)
    -- region 4: span.go:126
    refine tr_region ?_
    refine tr_val (ov_move rfl rfl) rfl rfl rfl ?_
    refine tr_call (SortFunc_c A0 c0 L _ H.get0 hL) rfl rfl rfl Try.call63 rfl rfl rfl ?_
    rintro _ w3 ⟨rfl, D, hDl, hP, hS, HC⟩
    have H := H.call1 HC
    rw [← hDl]
    have H := H.addNil 40 2 encSpan
    refine tr_nil (hK6 _ _ (TrC.keep [3, 8, 2, 0] ?_))
    show TrC _ _ _ _ [(3, _), (8, _), (2, _), (0, _)] _ _
    refine tr_seq (fun K7 hK7 => ?_)
    refine tr_seq (fun K8 hK8 => ?_)
    -- region 5: span.go:135
    refine tr_region ?_
    refine tr_val (ov_move rfl rfl) rfl rfl rfl ?_
    refine tr_val (ov_len rfl rfl Try.underlying33 rfl) rfl rfl rfl ?_
    refine tr_val (ov_move rfl rfl) rfl rfl rfl ?_
    refine tr_nil (hK8 _ _ (TrC.keep [15, 14, 13, 3, 8, 2, 0] ?_))
    show TrC _ _ _ _ [(15, _), (14, _), (13, _), (3, _), (8, _), (2, _), (0, _)] _ _
    refine tr_block ?_
    refine tr_loop_ (X := Int × List Sp × Option Addr × Nat) [14, 13, 3, 8, 0] (fun ⟨i, R, A1, c1⟩ => [(15, .int .i64 i), (2, .slice A1 R.length c1)]) (fun ⟨i, R, A1, c1⟩ w' => 0 ≤ i ∧ i ≤ D.length ∧ Mrg D i R ∧ SH w noBlocks [vec A1 c1 40 2 encSpan R, vec A0 c0 40 2 encSpan D] w') (fun ⟨i, R, A1, c1⟩ => (D.length - i).toNat) (⟨0, [], none, 0⟩) (Sub.cons rfl (Sub.cons rfl (Sub.cons rfl (Sub.cons rfl (Sub.cons rfl (Sub.cons rfl (Sub.cons rfl Sub.nil))))))) (⟨by omega, by omega, mrg_start, H⟩) ?_
    rintro ⟨i, R, A1, c1⟩ w4 ⟨hi0, hi1, hm, H⟩ K9 hK9
    have hml := hm.len
    show TrC _ _ _ _ [(15, _), (2, _), (14, _), (13, _), (3, _), (8, _), (0, _)] _ _
    refine tr_seq (fun K10 hK10 => ?_)
    -- region 6: span.go:135
    refine tr_region ?_
    refine tr_val (ov_lss rfl rfl rfl) rfl rfl rfl ?_
    refine tr_nil (hK10 _ _ (TrC.keep [16, 15, 2, 14, 13, 3, 8, 0] ?_))
    show TrC _ _ _ _ [(16, _), (15, _), (2, _), (14, _), (13, _), (3, _), (8, _), (0, _)] _ _
    refine tr_seq (fun K11 hK11 => ?_)
    first | refine tr_cond rfl (fun c16 => ?_) (fun c16 => ?_) | refine tr_condb rfl (fun c16 => ?_) (fun c16 => ?_)
    · skip
      refine tr_skip (hK11 _ _ (TrC.keep [16, 15, 2, 14, 13, 3, 8, 0] ?_))
      show TrC _ _ _ _ [(16, _), (15, _), (2, _), (14, _), (13, _), (3, _), (8, _), (0, _)] _ _
      refine tr_seq (fun K12 hK12 => ?_)
      refine tr_block ?_
      refine tr_seq (fun K13 hK13 => ?_)
      -- region 7: span.go:135
      have hDi := hall _ (hP.mem_iff.mp (gt_mem (L := D) hi0 (by omega)))
      refine tr_region ?_
      refine tr_val (ov_indexAddrR (vec_rd H.get1 lenSpan (by decide)) rfl Try.underlying33 (Try.sizeOf40 _) rfl rfl (by omega) (by omega)) rfl rfl rfl ?_
      refine tr_val (ld_Span (vec_rd H.get1 lenSpan (by decide)) rfl (Try.isAgg40 _) (Try.sizeOf40 _) rfl (by omega) (by omega)) rfl rfl rfl ?_
      refine tr_alloc H rfl (Try.zeroValue40 _) rfl rfl rfl rfl ?_
      intro b1 w5 hb1 H
      first | (refine tr_storeW H.get0 rfl (Try.sizeOf40 _) rfl rfl rfl rfl rfl rfl rfl rfl ?_; intro w6 U; have H := H.upd0 U; clear U) | (refine tr_storeW H.get1 rfl (Try.sizeOf40 _) rfl rfl rfl rfl rfl rfl rfl rfl ?_; intro w6 U; have H := H.upd1 U; clear U) | (refine tr_storeW H.get2 rfl (Try.sizeOf40 _) rfl rfl rfl rfl rfl rfl rfl rfl ?_; intro w6 U; have H := H.upd2 U; clear U) | (refine tr_storeW H.get3 rfl (Try.sizeOf40 _) rfl rfl rfl rfl rfl rfl rfl rfl ?_; intro w6 U; have H := H.upd3 U; clear U) | (refine tr_storeW H.get4 rfl (Try.sizeOf40 _) rfl rfl rfl rfl rfl rfl rfl rfl ?_; intro w6 U; have H := H.upd4 U; clear U) | (refine tr_storeW H.get5 rfl (Try.sizeOf40 _) rfl rfl rfl rfl rfl rfl rfl rfl ?_; intro w6 U; have H := H.upd5 U; clear U)
      refine tr_nil (hK13 _ _ (TrC.keep [5, 16, 15, 2, 14, 13, 3, 8, 0] ?_))
      show TrC _ _ _ _ [(5, _), (16, _), (15, _), (2, _), (14, _), (13, _), (3, _), (8, _), (0, _)] _ _
      refine tr_seq (fun K14 hK14 => ?_)
      -- region 8: span.go:136
      refine tr_region ?_
      refine tr_val (ov_move rfl rfl) rfl rfl rfl ?_
      refine tr_val (ov_len rfl rfl Try.underlying33 rfl) rfl rfl rfl ?_
      refine tr_val (ov_assign rfl rfl) rfl rfl rfl ?_
      refine tr_nil (hK14 _ _ (TrC.keep [6, 5, 16, 15, 2, 14, 13, 3, 8, 0] ?_))
      show TrC _ _ _ _ [(6, _), (5, _), (16, _), (15, _), (2, _), (14, _), (13, _), (3, _), (8, _), (0, _)] _ _
      refine tr_seq (fun K15 hK15 => ?_)
      -- region 9: span.go:136
      refine tr_quiet mixed (by kernel_rfl) H ?_
      refine tq_val (fun _ H => ov_move rfl rfl) rfl rfl rfl ?_
      refine tq_val (fun _ H => ov_gtr rfl rfl rfl) rfl rfl rfl ?_
      refine tq_val (fun _ H => ov_move rfl rfl) rfl rfl rfl ?_
      first | refine tq_split (t := 23) rfl (fun s23 => ?_) (fun s23 => ?_) | refine tq_splitb (t := 23) rfl (fun s23 => ?_) (fun s23 => ?_)
      · skip
        refine tq_val (fun _ H => ov_fieldAddr rfl Try.underlying40 rfl (Try.sizeOf2 _) (by decide) rfl) rfl rfl rfl ?_
        first | refine tq_val (fun _ H => ov_load_blk H.get0 rfl (Try.isAgg2 _) rfl rfl rfl) rfl rfl rfl ?_ | refine tq_val (fun _ H => ov_load_blk H.get1 rfl (Try.isAgg2 _) rfl rfl rfl) rfl rfl rfl ?_ | refine tq_val (fun _ H => ov_load_blk H.get2 rfl (Try.isAgg2 _) rfl rfl rfl) rfl rfl rfl ?_ | refine tq_val (fun _ H => ov_load_blk H.get3 rfl (Try.isAgg2 _) rfl rfl rfl) rfl rfl rfl ?_ | refine tq_val (fun _ H => ov_load_blk H.get4 rfl (Try.isAgg2 _) rfl rfl rfl) rfl rfl rfl ?_ | refine tq_val (fun _ H => ov_load_blk H.get5 rfl (Try.isAgg2 _) rfl rfl rfl) rfl rfl rfl ?_
        refine tq_val (fun _ H => ov_move rfl rfl) rfl rfl rfl ?_
        refine tq_val (fun _ H => ov_move rfl rfl) rfl rfl rfl ?_
        refine tq_val (fun _ H => ov_sub rfl rfl rfl (w64 (by omega))) rfl rfl rfl ?_
        refine tq_val (fun _ H => ov_indexAddrR (vec_rd H.get1 lenSpan (by decide)) rfl Try.underlying33 (Try.sizeOf40 _) rfl rfl (by omega) (by omega)) rfl rfl rfl ?_
        refine tq_val (fun _ H => ov_fieldAddr rfl Try.underlying40 rfl (Try.sizeOf2 _) (by decide) rfl) rfl rfl rfl ?_
        refine tq_val (fun _ H => ld_Span_1 (vec_rd H.get1 lenSpan (by decide)) rfl (Try.isAgg2 _) rfl (by omega) (by omega)) rfl rfl rfl ?_
        refine tq_val (fun _ H => ov_leq rfl rfl rfl) rfl rfl rfl ?_
        refine tq_val (fun _ H => ov_pick (vb := undef) rfl rfl rfl rfl) rfl rfl rfl ?_
        refine tq_nil ?_
        intro w7 H
        refine hK15 _ _ (TrC.keep [33, 6, 5, 16, 15, 2, 14, 13, 3, 8, 0] ?_)
        show TrC _ _ _ _ [(33, _), (6, _), (5, _), (16, _), (15, _), (2, _), (14, _), (13, _), (3, _), (8, _), (0, _)] _ _
        first | refine tr_cond rfl (fun c33 => ?_) (fun c33 => ?_) | refine tr_condb rfl (fun c33 => ?_) (fun c33 => ?_)
        · skip
          -- region 10: span.go:137
          refine tr_tail 12 mixed (by kernel_rfl) H ?_
          intro w8 H RT hT
          refine ts_val (ov_move rfl rfl) rfl rfl rfl ?_
          refine ts_val (ov_move rfl rfl) rfl rfl rfl ?_
          refine ts_val (ov_sub rfl rfl rfl (w64 (by omega))) rfl rfl rfl ?_
          refine ts_val (ov_move rfl rfl) rfl rfl rfl ?_
          refine ts_val (ov_move rfl rfl) rfl rfl rfl ?_
          refine ts_val (ov_sub rfl rfl rfl (w64 (by omega))) rfl rfl rfl ?_
          refine ts_val (ov_indexAddrR (vec_rd H.get1 lenSpan (by decide)) rfl Try.underlying33 (Try.sizeOf40 _) rfl rfl (by omega) (by omega)) rfl rfl rfl ?_
          refine ts_val (ov_fieldAddr rfl Try.underlying40 rfl (Try.sizeOf2 _) (by decide) rfl) rfl rfl rfl ?_
          refine ts_val (ld_Span_1 (vec_rd H.get1 lenSpan (by decide)) rfl (Try.isAgg2 _) rfl (by omega) (by omega)) rfl rfl rfl ?_
          refine ts_val (ov_fieldAddr rfl Try.underlying40 rfl (Try.sizeOf2 _) (by decide) rfl) rfl rfl rfl ?_
          first | refine ts_val (ov_load_blk H.get0 rfl (Try.isAgg2 _) rfl rfl rfl) rfl rfl rfl ?_ | refine ts_val (ov_load_blk H.get1 rfl (Try.isAgg2 _) rfl rfl rfl) rfl rfl rfl ?_ | refine ts_val (ov_load_blk H.get2 rfl (Try.isAgg2 _) rfl rfl rfl) rfl rfl rfl ?_ | refine ts_val (ov_load_blk H.get3 rfl (Try.isAgg2 _) rfl rfl rfl) rfl rfl rfl ?_ | refine ts_val (ov_load_blk H.get4 rfl (Try.isAgg2 _) rfl rfl rfl) rfl rfl rfl ?_ | refine ts_val (ov_load_blk H.get5 rfl (Try.isAgg2 _) rfl rfl rfl) rfl rfl rfl ?_
          refine ts_val (ov_max rfl rfl rfl) rfl rfl rfl ?_
          refine ts_nil (hT _ ?_)
          show TrL _ _ _ _ _ [(45, _), (44, _), (43, _), (42, _), (41, _), (40, _), (39, _), (38, _), (37, _), (36, _), (35, _), (34, _), (33, _), (6, _), (5, _), (16, _), (15, _), (2, _), (14, _), (13, _), (3, _), (8, _), (0, _)] _ _
          refine tr_val (ov_indexAddrR (vec_rd H.get1 lenSpan (by decide)) rfl Try.underlying33 (Try.sizeOf40 _) rfl rfl (by omega) (by omega)) rfl rfl rfl ?_
          refine tr_val (ov_fieldAddr rfl Try.underlying40 rfl (Try.sizeOf2 _) (by decide) rfl) rfl rfl rfl ?_
          refine tr_store_vec (i := (R.length : Int) - 1) (k := 1) ((gt R ((R.length : Int) - 1)).1, max (gt R ((R.length : Int) - 1)).2 (gt D i).2) [.int .i64 (max (gt R ((R.length : Int) - 1)).2 (gt D i).2)] H.get1 lenSpan rfl rfl rfl rfl (by omega) (by omega) (Try.sizeOf2 _) (Nat.le_refl _) (List.cons_ne_nil _ _) rfl rfl rfl rfl rfl ?_
          intro w9 U; have H := H.upd1 U; clear U
          refine tr_nil (hK12 _ _ (TrC.keep [33, 6, 5, 16, 15, 2, 14, 13, 3, 8, 0] ?_))
          show TrC _ _ _ _ [(33, _), (6, _), (5, _), (16, _), (15, _), (2, _), (14, _), (13, _), (3, _), (8, _), (0, _)] _ _
          -- region 12: span.go:135
          refine tr_region ?_
          refine tr_val (ov_add rfl rfl rfl (w64 (by omega))) rfl rfl rfl ?_
          refine tr_val (ov_move rfl rfl) rfl rfl rfl ?_
          skip
          exact tr_nil (hK9 (⟨i + 1, R.set ((R.length : Int) - 1).toNat ((gt R ((R.length : Int) - 1)).1, max (gt R ((R.length : Int) - 1)).2 (gt D i).2), A1, c1⟩) _ _ (⟨by omega, by omega, mrg_ext hm hi0 (by omega) hDi (by omega) (by omega), H.drop0⟩) (by first | omega | (dsimp only; omega)) (Sub.cons rfl (Sub.consE rfl (by simp) (Sub.cons rfl (Sub.cons rfl (Sub.cons rfl (Sub.cons rfl (Sub.cons rfl Sub.nil))))))))
        · skip
          -- region 11: span.go:139
          refine tr_region ?_
          refine tr_val (ov_move rfl rfl) rfl rfl rfl ?_
          first | refine tr_val (ov_load_blkN H.get0 rfl (Try.isAgg40 _) (Try.sizeOf40 _) rfl rfl rfl) rfl rfl rfl ?_ | refine tr_val (ov_load_blkN H.get1 rfl (Try.isAgg40 _) (Try.sizeOf40 _) rfl rfl rfl) rfl rfl rfl ?_ | refine tr_val (ov_load_blkN H.get2 rfl (Try.isAgg40 _) (Try.sizeOf40 _) rfl rfl rfl) rfl rfl rfl ?_ | refine tr_val (ov_load_blkN H.get3 rfl (Try.isAgg40 _) (Try.sizeOf40 _) rfl rfl rfl) rfl rfl rfl ?_ | refine tr_val (ov_load_blkN H.get4 rfl (Try.isAgg40 _) (Try.sizeOf40 _) rfl rfl rfl) rfl rfl rfl ?_ | refine tr_val (ov_load_blkN H.get5 rfl (Try.isAgg40 _) (Try.sizeOf40 _) rfl rfl rfl) rfl rfl rfl ?_
          refine tr_buildSlice H rfl Try.underlying33 info40 rfl (fun ρ k => bs1 k rfl) (by decide) (by decide) (fill_Span_1 _ _) rfl rfl rfl ?_
          intro b2 w9 hb2 H
          refine tr_append H.get2 (rd_blk [gt D i] H.get0 rfl lenSpan) rfl rfl rfl Try.underlying33 info40 rfl rfl (show Try.t40.bytes = 16 from rfl) rfl (by decide) lenSpan oneSpan (by simp; omega) (by simp [maxLen]; omega) rfl rfl rfl ?_
          intro A' c' w10 U; have H := H.upd2 U; clear U
          refine tr_val (ov_assign rfl rfl) rfl rfl rfl ?_
          refine tr_nil (hK12 _ _ (TrC.keep [2, 33, 6, 5, 16, 15, 14, 13, 3, 8, 0] ?_))
          show TrC _ _ _ _ [(2, _), (33, _), (6, _), (5, _), (16, _), (15, _), (14, _), (13, _), (3, _), (8, _), (0, _)] _ _
          -- region 12: span.go:135
          refine tr_region ?_
          refine tr_val (ov_add rfl rfl rfl (w64 (by omega))) rfl rfl rfl ?_
          refine tr_val (ov_move rfl rfl) rfl rfl rfl ?_
          skip
          exact tr_nil (hK9 (⟨i + 1, R ++ [gt D i], A', c'⟩) _ _ (⟨by omega, by omega, mrg_app hm hS hi0 (by omega) hDi (.inr (by omega)), H.drop0.drop0⟩) (by first | omega | (dsimp only; omega)) (Sub.cons rfl (Sub.cons rfl (Sub.cons rfl (Sub.cons rfl (Sub.cons rfl (Sub.cons rfl (Sub.cons rfl Sub.nil))))))))
      · skip
        refine tq_pass rfl rfl rfl ?_
        refine tq_pass rfl rfl rfl ?_
        refine tq_pass rfl rfl rfl ?_
        refine tq_pass rfl rfl rfl ?_
        refine tq_pass rfl rfl rfl ?_
        refine tq_pass rfl rfl rfl ?_
        refine tq_pass rfl rfl rfl ?_
        refine tq_pass rfl rfl rfl ?_
        refine tq_pass rfl rfl rfl ?_
        refine tq_val (fun _ H => ov_pick_f (va := undef) rfl rfl rfl rfl) rfl rfl rfl ?_
        refine tq_nil ?_
        intro w11 H
        refine hK15 _ _ (TrC.keep [33, 6, 5, 16, 15, 2, 14, 13, 3, 8, 0] ?_)
        show TrC _ _ _ _ [(33, _), (6, _), (5, _), (16, _), (15, _), (2, _), (14, _), (13, _), (3, _), (8, _), (0, _)] _ _
        refine tr_cond_f rfl rfl ?_
        -- region 11: span.go:139
        refine tr_region ?_
        refine tr_val (ov_move rfl rfl) rfl rfl rfl ?_
        first | refine tr_val (ov_load_blkN H.get0 rfl (Try.isAgg40 _) (Try.sizeOf40 _) rfl rfl rfl) rfl rfl rfl ?_ | refine tr_val (ov_load_blkN H.get1 rfl (Try.isAgg40 _) (Try.sizeOf40 _) rfl rfl rfl) rfl rfl rfl ?_ | refine tr_val (ov_load_blkN H.get2 rfl (Try.isAgg40 _) (Try.sizeOf40 _) rfl rfl rfl) rfl rfl rfl ?_ | refine tr_val (ov_load_blkN H.get3 rfl (Try.isAgg40 _) (Try.sizeOf40 _) rfl rfl rfl) rfl rfl rfl ?_ | refine tr_val (ov_load_blkN H.get4 rfl (Try.isAgg40 _) (Try.sizeOf40 _) rfl rfl rfl) rfl rfl rfl ?_ | refine tr_val (ov_load_blkN H.get5 rfl (Try.isAgg40 _) (Try.sizeOf40 _) rfl rfl rfl) rfl rfl rfl ?_
        refine tr_buildSlice H rfl Try.underlying33 info40 rfl (fun ρ k => bs1 k rfl) (by decide) (by decide) (fill_Span_1 _ _) rfl rfl rfl ?_
        intro b3 w12 hb3 H
        refine tr_append H.get2 (rd_blk [gt D i] H.get0 rfl lenSpan) rfl rfl rfl Try.underlying33 info40 rfl rfl (show Try.t40.bytes = 16 from rfl) rfl (by decide) lenSpan oneSpan (by simp; omega) (by simp [maxLen]; omega) rfl rfl rfl ?_
        intro A' c' w13 U; have H := H.upd2 U; clear U
        refine tr_val (ov_assign rfl rfl) rfl rfl rfl ?_
        refine tr_nil (hK12 _ _ (TrC.keep [2, 33, 6, 5, 16, 15, 14, 13, 3, 8, 0] ?_))
        show TrC _ _ _ _ [(2, _), (33, _), (6, _), (5, _), (16, _), (15, _), (14, _), (13, _), (3, _), (8, _), (0, _)] _ _
        -- region 12: span.go:135
        refine tr_region ?_
        refine tr_val (ov_add rfl rfl rfl (w64 (by omega))) rfl rfl rfl ?_
        refine tr_val (ov_move rfl rfl) rfl rfl rfl ?_
        skip
        exact tr_nil (hK9 (⟨i + 1, R ++ [gt D i], A', c'⟩) _ _ (⟨by omega, by omega, mrg_app hm hS hi0 (by omega) hDi (.inl (by omega)), H.drop0.drop0⟩) (by first | omega | (dsimp only; omega)) (Sub.cons rfl (Sub.cons rfl (Sub.cons rfl (Sub.cons rfl (Sub.cons rfl (Sub.cons rfl (Sub.cons rfl Sub.nil))))))))
    · skip
      refine tr_exit (hK7 _ _ (TrC.keep [16, 15, 2, 14, 13, 3, 8, 0] ?_))
      show TrC _ _ _ _ [(16, _), (15, _), (2, _), (14, _), (13, _), (3, _), (8, _), (0, _)] _ _
      refine tr_seq (fun K16 hK16 => ?_)
      -- region 13: span.go:142
      refine tr_region ?_
      refine tr_val (ov_move rfl rfl) rfl rfl rfl ?_
      refine tr_val (ov_assign rfl rfl) rfl rfl rfl ?_
      refine tr_nil (hK16 _ _ (TrC.keep [2, 16, 15, 14, 13, 3, 8, 0] ?_))
      show TrC _ _ _ _ [(2, _), (16, _), (15, _), (14, _), (13, _), (3, _), (8, _), (0, _)] _ _
      refine tr_ret (post_ret1 (.inr rfl) rfl rfl ?_)
      exact ⟨A1, c1, R, rfl, mrg_end hm hP hall (by omega), H.drop1⟩

/-! curfew/curfewref07.Join -/
set_option maxRecDepth 20000 in
theorem JoinR_c (A : Option Addr) (c : Nat) (L : List Sp) (w : World) (hR : Rd w A 2 (L.map encSpan)) (hL : L.length ≤ 4294967296) : Does Try.prog 48 #[.slice A L.length c] w (fun v w' => ∃ A' c' R, v = .slice A' R.length c' ∧ JoinOf L R ∧ SH w noBlocks [vec A' c' 40 2 encSpan R] w') := by
  refine does_enter1 Try.func48 rfl Try.ntmps48 rfl ?_
  have H := SH.start w noBlocks
  refine tr_seq (fun K1 hK1 => ?_)
  -- region 0: ref.go:140
  have H := H.addNil 40 2 encSpan
  refine tr_region ?_
  refine tr_val (ov_assign rfl rfl) rfl rfl rfl ?_
  refine tr_nil (hK1 _ _ (TrC.keep [2, 0] ?_))
  show TrC _ _ _ _ [(2, _), (0, _)] _ _
  refine tr_seq (fun K2 hK2 => ?_)
  -- region 1: ref.go:141
  refine tr_region ?_
  refine tr_val (ov_assign rfl rfl) rfl rfl rfl ?_
  refine tr_nil (hK2 _ _ (TrC.keep [3, 2, 0] ?_))
  show TrC _ _ _ _ [(3, _), (2, _), (0, _)] _ _
  refine tr_seq (fun K3 hK3 => ?_)
  refine tr_seq (fun K4 hK4 => ?_)
  -- region 2: ref.go:142
  refine tr_region ?_
  refine tr_val (ov_assign rfl rfl) rfl rfl rfl ?_
  refine tr_nil (hK4 _ _ (TrC.keep [4, 3, 2, 0] ?_))
  show TrC _ _ _ _ [(4, _), (3, _), (2, _), (0, _)] _ _
  refine tr_block ?_
  refine tr_loop_ (X := Int) [3, 0] (fun i => [(4, .int .i64 i)]) (fun i w' => 0 ≤ i ∧ i ≤ L.length ∧ (∀ s, s ∈ L.take i.toNat → RightP s) ∧ SH w noBlocks [vec none 0 40 2 encSpan ([] : List Sp)] w') (fun i => (L.length - i).toNat) (0) (Sub.cons rfl (Sub.cons rfl (Sub.cons rfl Sub.nil))) (⟨by omega, by omega, by simp, H⟩) ?_
  rintro i w1 ⟨hi0, hi1, hr, H⟩ K5 hK5
  show TrC _ _ _ _ [(4, _), (3, _), (0, _)] _ _
  refine tr_seq (fun K6 hK6 => ?_)
  refine tr_seq (fun K7 hK7 => ?_)
  -- region 3: ref.go:142
  refine tr_region ?_
  refine tr_val (ov_move rfl rfl) rfl rfl rfl ?_
  refine tr_val (ov_move rfl rfl) rfl rfl rfl ?_
  refine tr_val (ov_len rfl rfl Try.underlying33 rfl) rfl rfl rfl ?_
  refine tr_val (ov_lss rfl rfl rfl) rfl rfl rfl ?_
  refine tr_nil (hK7 _ _ (TrC.keep [14, 4, 3, 0] ?_))
  show TrC _ _ _ _ [(14, _), (4, _), (3, _), (0, _)] _ _
  first | refine tr_cond rfl (fun c14 => ?_) (fun c14 => ?_) | refine tr_condb rfl (fun c14 => ?_) (fun c14 => ?_)
  · skip
    refine tr_skip (hK6 _ _ (TrC.keep [14, 4, 3, 0] ?_))
    show TrC _ _ _ _ [(14, _), (4, _), (3, _), (0, _)] _ _
    refine tr_seq (fun K8 hK8 => ?_)
    refine tr_block ?_
    refine tr_seq (fun K9 hK9 => ?_)
    -- region 5: ref.go:143
    refine tr_region ?_
    refine tr_val (ov_move rfl rfl) rfl rfl rfl ?_
    refine tr_val (ov_move rfl rfl) rfl rfl rfl ?_
    refine tr_val (ov_indexAddrR (H.rd0 hR) rfl Try.underlying33 (Try.sizeOf40 _) rfl rfl (by omega) (by omega)) rfl rfl rfl ?_
    refine tr_val (ld_Span (H.rd0 hR) rfl (Try.isAgg40 _) (Try.sizeOf40 _) rfl (by omega) (by omega)) rfl rfl rfl ?_
    refine tr_call (RightR_c (gt L i) _) rfl rfl rfl Try.call42 rfl rfl rfl ?_
    rintro _ w2 ⟨rfl, HC⟩
    have H := H.call0n HC
    first | refine tr_val (ov_not rfl rfl) rfl rfl rfl ?_ | refine tr_val (ov_notb rfl rfl) rfl rfl rfl ?_
    refine tr_nil (hK9 _ _ (TrC.keep [22, 14, 4, 3, 0] ?_))
    show TrC _ _ _ _ [(22, _), (14, _), (4, _), (3, _), (0, _)] _ _
    first | refine tr_cond rfl (fun c22 => ?_) (fun c22 => ?_) | refine tr_condb rfl (fun c22 => ?_) (fun c22 => ?_)
    · skip
      refine tr_seq (fun K10 hK10 => ?_)
      -- region 6: ref.go:144
      refine tr_region ?_
      refine tr_val (ov_assign rfl rfl) rfl rfl rfl ?_
      refine tr_nil (hK10 _ _ (TrC.keep [2, 22, 14, 4, 3, 0] ?_))
      show TrC _ _ _ _ [(2, _), (22, _), (14, _), (4, _), (3, _), (0, _)] _ _
      refine tr_ret (post_ret1 (.inr rfl) rfl rfl ?_)
      exact ⟨none, 0, [], rfl, .inl ⟨⟨gt L i, gt_mem hi0 (by omega), c22⟩, rfl⟩, H⟩
    · skip
      refine tr_skip (hK8 _ _ (TrC.keep [22, 14, 4, 3, 0] ?_))
      show TrC _ _ _ _ [(22, _), (14, _), (4, _), (3, _), (0, _)] _ _
      -- region 4: ref.go:142
      refine tr_region ?_
      refine tr_val (ov_move rfl rfl) rfl rfl rfl ?_
      refine tr_val (ov_add rfl rfl rfl (w64 (by omega))) rfl rfl rfl ?_
      refine tr_val (ov_assign rfl rfl) rfl rfl rfl ?_
      skip
      exact tr_nil (hK5 (i + 1) _ _ (⟨by omega, by omega, right_step hr hi0 (by omega) (by simpa using c22), H⟩) (by first | omega | (dsimp only; omega)) (Sub.cons rfl (Sub.cons rfl (Sub.cons rfl Sub.nil))))
  · skip
    refine tr_exit (hK3 _ _ (TrC.keep [14, 4, 3, 0] ?_))
    show TrC _ _ _ _ [(14, _), (4, _), (3, _), (0, _)] _ _
    refine tr_block ?_
    have hall : ∀ s, s ∈ L → RightP s := by rw [List.take_of_length_le (by omega)] at hr; exact hr
    refine tr_loop_ (X := List Sp × Option Addr × Nat) [14, 4, 0] (fun ⟨O, A1, c1⟩ => [(3, .slice A1 O.length c1)]) (fun ⟨O, A1, c1⟩ w' => Grw L O ∧ SH w noBlocks [vec A1 c1 40 2 encSpan O] w') (fun ⟨O, A1, c1⟩ => L.length - O.length) (⟨[], none, 0⟩) (Sub.cons rfl (Sub.cons rfl (Sub.cons rfl (Sub.cons rfl Sub.nil)))) (⟨grw_start, H⟩) ?_
    rintro ⟨O, A1, c1⟩ w3 ⟨hG, H⟩ K11 hK11
    have hcn := hG.cnt
    show TrC _ _ _ _ [(3, _), (14, _), (4, _), (0, _)] _ _
    refine tr_block ?_
    refine tr_seq (fun K12 hK12 => ?_)
    -- region 7: ref.go:148
    refine tr_region ?_
    refine tr_val (ov_assign rfl rfl) rfl rfl rfl ?_
    refine tr_nil (hK12 _ _ (TrC.keep [5, 3, 14, 4, 0] ?_))
    show TrC _ _ _ _ [(5, _), (3, _), (14, _), (4, _), (0, _)] _ _
    refine tr_seq (fun K13 hK13 => ?_)
    refine tr_seq (fun K14 hK14 => ?_)
    -- region 8: ref.go:149
    refine tr_region ?_
    refine tr_val (ov_assign rfl rfl) rfl rfl rfl ?_
    refine tr_nil (hK14 _ _ (TrC.keep [6, 5, 3, 14, 4, 0] ?_))
    show TrC _ _ _ _ [(6, _), (5, _), (3, _), (14, _), (4, _), (0, _)] _ _
    refine tr_block ?_
    refine tr_loop_ (X := Int × Int) [3, 14, 4, 0] (fun ⟨k, n⟩ => [(6, .int .i64 k), (5, .int .i64 n)]) (fun ⟨k, n⟩ w' => 0 ≤ k ∧ k ≤ L.length ∧ Lowest L O k n ∧ SH w noBlocks [vec A1 c1 40 2 encSpan O] w') (fun ⟨k, n⟩ => (L.length - k).toNat) (⟨0, -1⟩) (Sub.cons rfl (Sub.cons rfl (Sub.cons rfl (Sub.cons rfl (Sub.cons rfl (Sub.cons rfl Sub.nil)))))) (⟨by omega, by omega, lowest_start, H⟩) ?_
    rintro ⟨k, n⟩ w4 ⟨hk0, hk1, hl, H⟩ K15 hK15
    show TrC _ _ _ _ [(6, _), (5, _), (3, _), (14, _), (4, _), (0, _)] _ _
    refine tr_seq (fun K16 hK16 => ?_)
    refine tr_seq (fun K17 hK17 => ?_)
    -- region 9: ref.go:149
    refine tr_region ?_
    refine tr_val (ov_move rfl rfl) rfl rfl rfl ?_
    refine tr_val (ov_move rfl rfl) rfl rfl rfl ?_
    refine tr_val (ov_len rfl rfl Try.underlying33 rfl) rfl rfl rfl ?_
    refine tr_val (ov_lss rfl rfl rfl) rfl rfl rfl ?_
    refine tr_nil (hK17 _ _ (TrC.keep [26, 6, 5, 3, 14, 4, 0] ?_))
    show TrC _ _ _ _ [(26, _), (6, _), (5, _), (3, _), (14, _), (4, _), (0, _)] _ _
    first | refine tr_cond rfl (fun c26 => ?_) (fun c26 => ?_) | refine tr_condb rfl (fun c26 => ?_) (fun c26 => ?_)
    · skip
      refine tr_skip (hK16 _ _ (TrC.keep [26, 6, 5, 3, 14, 4, 0] ?_))
      show TrC _ _ _ _ [(26, _), (6, _), (5, _), (3, _), (14, _), (4, _), (0, _)] _ _
      refine tr_seq (fun K18 hK18 => ?_)
      refine tr_block ?_
      refine tr_seq (fun K19 hK19 => ?_)
      -- region 11: ref.go:150
      have hl0 := hl.1
      have hl1 := hl.2.1
      refine tr_quiet_cut [26, 6, 5, 3, 14, 4, 0] [(7, .bool (decide (isNew O (gt L k))))] mixed (by kernel_rfl) H (fun K20 hK20 => ?_) (fun w5 H => ?_)
      · skip
        refine tq_val (fun _ H => ov_move rfl rfl) rfl rfl rfl ?_
        refine tq_val (fun _ H => ov_len rfl rfl Try.underlying33 rfl) rfl rfl rfl ?_
        refine tq_val (fun _ H => ov_eql rfl rfl rfl) rfl rfl rfl ?_
        refine tq_val (fun _ H => ov_move rfl rfl) rfl rfl rfl ?_
        first | refine tq_split (t := 32) rfl (fun s32 => ?_) (fun s32 => ?_) | refine tq_splitb (t := 32) rfl (fun s32 => ?_) (fun s32 => ?_)
        · skip
          refine tq_pass rfl rfl rfl ?_
          refine tq_pass rfl rfl rfl ?_
          refine tq_pass rfl rfl rfl ?_
          refine tq_pass rfl rfl rfl ?_
          refine tq_pass rfl rfl rfl ?_
          refine tq_pass rfl rfl rfl ?_
          refine tq_pass rfl rfl rfl ?_
          refine tq_pass rfl rfl rfl ?_
          refine tq_pass rfl rfl rfl ?_
          refine tq_pass rfl rfl rfl ?_
          refine tq_pass rfl rfl rfl ?_
          refine tq_pass rfl rfl rfl ?_
          refine tq_pass rfl rfl rfl ?_
          refine tq_val (fun _ H => ov_pick (vb := undef) rfl rfl rfl rfl) rfl rfl rfl ?_
          refine tq_val (fun _ H => ov_assign rfl rfl) rfl rfl rfl ?_
          exact tq_nil_cut (hK20 _ (Sub.consE rfl (congrArg Value.bool (by first | exact eqT (by unfold isNew; omega) | exact eqF (by unfold isNew; omega) | exact eqI (by unfold isNew; omega))) (Sub.cons rfl (Sub.cons rfl (Sub.cons rfl (Sub.cons rfl (Sub.cons rfl (Sub.cons rfl (Sub.cons rfl Sub.nil)))))))))
        · skip
          refine tq_val (fun _ H => ov_move rfl rfl) rfl rfl rfl ?_
          refine tq_val (fun _ H => ov_move rfl rfl) rfl rfl rfl ?_
          refine tq_val (fun _ H => ov_indexAddrR (H.rd0 hR) rfl Try.underlying33 (Try.sizeOf40 _) rfl rfl (by omega) (by omega)) rfl rfl rfl ?_
          refine tq_val (fun _ H => ov_fieldAddr rfl Try.underlying40 rfl (Try.sizeOf2 _) (by decide) rfl) rfl rfl rfl ?_
          refine tq_val (fun _ H => ld_Span_0 (H.rd0 hR) rfl (Try.isAgg2 _) rfl (by omega) (by omega)) rfl rfl rfl ?_
          refine tq_val (fun _ H => ov_move rfl rfl) rfl rfl rfl ?_
          refine tq_val (fun _ H => ov_move rfl rfl) rfl rfl rfl ?_
          refine tq_val (fun _ H => ov_len rfl rfl Try.underlying33 rfl) rfl rfl rfl ?_
          refine tq_val (fun _ H => ov_sub rfl rfl rfl (w64 (by omega))) rfl rfl rfl ?_
          refine tq_val (fun _ H => ov_indexAddrR (vec_rd H.get0 lenSpan (by decide)) rfl Try.underlying33 (Try.sizeOf40 _) rfl rfl (by omega) (by omega)) rfl rfl rfl ?_
          refine tq_val (fun _ H => ov_fieldAddr rfl Try.underlying40 rfl (Try.sizeOf2 _) (by decide) rfl) rfl rfl rfl ?_
          refine tq_val (fun _ H => ld_Span_1 (vec_rd H.get0 lenSpan (by decide)) rfl (Try.isAgg2 _) rfl (by omega) (by omega)) rfl rfl rfl ?_
          refine tq_val (fun _ H => ov_gtr rfl rfl rfl) rfl rfl rfl ?_
          refine tq_val (fun _ H => ov_pick_f (va := undef) rfl rfl rfl rfl) rfl rfl rfl ?_
          refine tq_val (fun _ H => ov_assign rfl rfl) rfl rfl rfl ?_
          exact tq_nil_cut (hK20 _ (Sub.consE rfl (congrArg Value.bool (by first | exact eqT (by unfold isNew; omega) | exact eqF (by unfold isNew; omega) | exact eqI (by unfold isNew; omega))) (Sub.cons rfl (Sub.cons rfl (Sub.cons rfl (Sub.cons rfl (Sub.cons rfl (Sub.cons rfl (Sub.cons rfl Sub.nil)))))))))
      · skip
        refine hK19 _ _ (TrC.keep [7, 26, 6, 5, 3, 14, 4, 0] ?_)
        show TrC _ _ _ _ [(7, _), (26, _), (6, _), (5, _), (3, _), (14, _), (4, _), (0, _)] _ _
        refine tr_seq (fun K21 hK21 => ?_)
        -- region 12: ref.go:151
        refine tr_quiet mixed (by kernel_rfl) H ?_
        refine tq_val (fun _ H => ov_move rfl rfl) rfl rfl rfl ?_
        refine tq_val (fun _ H => ov_move rfl rfl) rfl rfl rfl ?_
        first | refine tq_split (t := 48) rfl (fun s48 => ?_) (fun s48 => ?_) | refine tq_splitb (t := 48) rfl (fun s48 => ?_) (fun s48 => ?_)
        · skip
          refine tq_val (fun _ H => ov_move rfl rfl) rfl rfl rfl ?_
          refine tq_val (fun _ H => ov_lss rfl rfl rfl) rfl rfl rfl ?_
          refine tq_val (fun _ H => ov_move rfl rfl) rfl rfl rfl ?_
          first | refine tq_split (t := 51) rfl (fun s51 => ?_) (fun s51 => ?_) | refine tq_splitb (t := 51) rfl (fun s51 => ?_) (fun s51 => ?_)
          · skip
            refine tq_pass rfl rfl rfl ?_
            refine tq_pass rfl rfl rfl ?_
            refine tq_pass rfl rfl rfl ?_
            refine tq_pass rfl rfl rfl ?_
            refine tq_pass rfl rfl rfl ?_
            refine tq_pass rfl rfl rfl ?_
            refine tq_pass rfl rfl rfl ?_
            refine tq_pass rfl rfl rfl ?_
            refine tq_pass rfl rfl rfl ?_
            refine tq_pass rfl rfl rfl ?_
            refine tq_pass rfl rfl rfl ?_
            refine tq_val (fun _ H => ov_pick (vb := undef) rfl rfl rfl rfl) rfl rfl rfl ?_
            refine tq_val (fun _ H => ov_pick (vb := undef) rfl rfl rfl rfl) rfl rfl rfl ?_
            refine tq_nil ?_
            intro w6 H
            refine hK21 _ _ (TrC.keep [64, 26, 6, 5, 3, 14, 4, 0] ?_)
            show TrC _ _ _ _ [(64, _), (26, _), (6, _), (5, _), (3, _), (14, _), (4, _), (0, _)] _ _
            refine tr_cond_t rfl rfl ?_
            -- region 13: ref.go:152
            refine tr_region ?_
            refine tr_val (ov_move rfl rfl) rfl rfl rfl ?_
            refine tr_val (ov_assign rfl rfl) rfl rfl rfl ?_
            refine tr_nil (hK18 _ _ (TrC.keep [5, 64, 26, 6, 3, 14, 4, 0] ?_))
            show TrC _ _ _ _ [(5, _), (64, _), (26, _), (6, _), (3, _), (14, _), (4, _), (0, _)] _ _
            -- region 10: ref.go:149
            refine tr_region ?_
            refine tr_val (ov_move rfl rfl) rfl rfl rfl ?_
            refine tr_val (ov_add rfl rfl rfl (w64 (by omega))) rfl rfl rfl ?_
            refine tr_val (ov_assign rfl rfl) rfl rfl rfl ?_
            skip
            exact tr_nil (hK15 (⟨k + 1, k⟩) _ _ (⟨by omega, by omega, lowest_take hl hk0 (by omega) s48 (.inl s51), H⟩) (by first | omega | (dsimp only; omega)) (Sub.cons rfl (Sub.cons rfl (Sub.cons rfl (Sub.cons rfl (Sub.cons rfl (Sub.cons rfl Sub.nil)))))))
          · skip
            refine tq_val (fun _ H => ov_move rfl rfl) rfl rfl rfl ?_
            refine tq_val (fun _ H => ov_move rfl rfl) rfl rfl rfl ?_
            refine tq_val (fun _ H => ov_indexAddrR (H.rd0 hR) rfl Try.underlying33 (Try.sizeOf40 _) rfl rfl (by omega) (by omega)) rfl rfl rfl ?_
            refine tq_val (fun _ H => ov_fieldAddr rfl Try.underlying40 rfl (Try.sizeOf2 _) (by decide) rfl) rfl rfl rfl ?_
            refine tq_val (fun _ H => ld_Span_0 (H.rd0 hR) rfl (Try.isAgg2 _) rfl (by omega) (by omega)) rfl rfl rfl ?_
            refine tq_val (fun _ H => ov_move rfl rfl) rfl rfl rfl ?_
            refine tq_val (fun _ H => ov_move rfl rfl) rfl rfl rfl ?_
            refine tq_val (fun _ H => ov_indexAddrR (H.rd0 hR) rfl Try.underlying33 (Try.sizeOf40 _) rfl rfl (by omega) (by omega)) rfl rfl rfl ?_
            refine tq_val (fun _ H => ov_fieldAddr rfl Try.underlying40 rfl (Try.sizeOf2 _) (by decide) rfl) rfl rfl rfl ?_
            refine tq_val (fun _ H => ld_Span_0 (H.rd0 hR) rfl (Try.isAgg2 _) rfl (by omega) (by omega)) rfl rfl rfl ?_
            refine tq_val (fun _ H => ov_lss rfl rfl rfl) rfl rfl rfl ?_
            refine tq_val (fun _ H => ov_pick_f (va := undef) rfl rfl rfl rfl) rfl rfl rfl ?_
            refine tq_val (fun _ H => ov_pick (vb := undef) rfl rfl rfl rfl) rfl rfl rfl ?_
            refine tq_nil ?_
            intro w7 H
            refine hK21 _ _ (TrC.keep [64, 26, 6, 5, 3, 14, 4, 0] ?_)
            show TrC _ _ _ _ [(64, _), (26, _), (6, _), (5, _), (3, _), (14, _), (4, _), (0, _)] _ _
            first | refine tr_cond rfl (fun c64 => ?_) (fun c64 => ?_) | refine tr_condb rfl (fun c64 => ?_) (fun c64 => ?_)
            · skip
              -- region 13: ref.go:152
              refine tr_region ?_
              refine tr_val (ov_move rfl rfl) rfl rfl rfl ?_
              refine tr_val (ov_assign rfl rfl) rfl rfl rfl ?_
              refine tr_nil (hK18 _ _ (TrC.keep [5, 64, 26, 6, 3, 14, 4, 0] ?_))
              show TrC _ _ _ _ [(5, _), (64, _), (26, _), (6, _), (3, _), (14, _), (4, _), (0, _)] _ _
              -- region 10: ref.go:149
              refine tr_region ?_
              refine tr_val (ov_move rfl rfl) rfl rfl rfl ?_
              refine tr_val (ov_add rfl rfl rfl (w64 (by omega))) rfl rfl rfl ?_
              refine tr_val (ov_assign rfl rfl) rfl rfl rfl ?_
              skip
              exact tr_nil (hK15 (⟨k + 1, k⟩) _ _ (⟨by omega, by omega, lowest_take hl hk0 (by omega) s48 (.inr c64), H⟩) (by first | omega | (dsimp only; omega)) (Sub.cons rfl (Sub.cons rfl (Sub.cons rfl (Sub.cons rfl (Sub.cons rfl (Sub.cons rfl Sub.nil)))))))
            · skip
              refine tr_skip (hK18 _ _ (TrC.keep [64, 26, 6, 5, 3, 14, 4, 0] ?_))
              show TrC _ _ _ _ [(64, _), (26, _), (6, _), (5, _), (3, _), (14, _), (4, _), (0, _)] _ _
              -- region 10: ref.go:149
              refine tr_region ?_
              refine tr_val (ov_move rfl rfl) rfl rfl rfl ?_
              refine tr_val (ov_add rfl rfl rfl (w64 (by omega))) rfl rfl rfl ?_
              refine tr_val (ov_assign rfl rfl) rfl rfl rfl ?_
              skip
              exact tr_nil (hK15 (⟨k + 1, n⟩) _ _ (⟨by omega, by omega, lowest_skip hl hk0 (by omega) (.inr (by omega)), H⟩) (by first | omega | (dsimp only; omega)) (Sub.cons rfl (Sub.cons rfl (Sub.cons rfl (Sub.cons rfl (Sub.cons rfl (Sub.cons rfl Sub.nil)))))))
        · skip
          refine tq_pass rfl rfl rfl ?_
          refine tq_pass rfl rfl rfl ?_
          refine tq_pass rfl rfl rfl ?_
          refine tq_pass rfl rfl rfl ?_
          refine tq_pass rfl rfl rfl ?_
          refine tq_pass rfl rfl rfl ?_
          refine tq_pass rfl rfl rfl ?_
          refine tq_pass rfl rfl rfl ?_
          refine tq_pass rfl rfl rfl ?_
          refine tq_pass rfl rfl rfl ?_
          refine tq_pass rfl rfl rfl ?_
          refine tq_pass rfl rfl rfl ?_
          refine tq_pass rfl rfl rfl ?_
          refine tq_pass rfl rfl rfl ?_
          refine tq_pass rfl rfl rfl ?_
          refine tq_val (fun _ H => ov_pick_f (va := undef) rfl rfl rfl rfl) rfl rfl rfl ?_
          refine tq_nil ?_
          intro w8 H
          refine hK21 _ _ (TrC.keep [64, 26, 6, 5, 3, 14, 4, 0] ?_)
          show TrC _ _ _ _ [(64, _), (26, _), (6, _), (5, _), (3, _), (14, _), (4, _), (0, _)] _ _
          refine tr_cond_f rfl rfl ?_
          refine tr_skip (hK18 _ _ (TrC.keep [64, 26, 6, 5, 3, 14, 4, 0] ?_))
          show TrC _ _ _ _ [(64, _), (26, _), (6, _), (5, _), (3, _), (14, _), (4, _), (0, _)] _ _
          -- region 10: ref.go:149
          refine tr_region ?_
          refine tr_val (ov_move rfl rfl) rfl rfl rfl ?_
          refine tr_val (ov_add rfl rfl rfl (w64 (by omega))) rfl rfl rfl ?_
          refine tr_val (ov_assign rfl rfl) rfl rfl rfl ?_
          skip
          exact tr_nil (hK15 (⟨k + 1, n⟩) _ _ (⟨by omega, by omega, lowest_skip hl hk0 (by omega) (.inl s48), H⟩) (by first | omega | (dsimp only; omega)) (Sub.cons rfl (Sub.cons rfl (Sub.cons rfl (Sub.cons rfl (Sub.cons rfl (Sub.cons rfl Sub.nil)))))))
    · skip
      refine tr_exit (hK13 _ _ (TrC.keep [26, 6, 5, 3, 14, 4, 0] ?_))
      show TrC _ _ _ _ [(26, _), (6, _), (5, _), (3, _), (14, _), (4, _), (0, _)] _ _
      refine tr_seq (fun K22 hK22 => ?_)
      refine tr_seq (fun K23 hK23 => ?_)
      -- region 14: ref.go:155
      refine tr_region ?_
      refine tr_val (ov_move rfl rfl) rfl rfl rfl ?_
      refine tr_val (ov_lss rfl rfl rfl) rfl rfl rfl ?_
      refine tr_nil (hK23 _ _ (TrC.keep [67, 26, 6, 5, 3, 14, 4, 0] ?_))
      show TrC _ _ _ _ [(67, _), (26, _), (6, _), (5, _), (3, _), (14, _), (4, _), (0, _)] _ _
      first | refine tr_cond rfl (fun c67 => ?_) (fun c67 => ?_) | refine tr_condb rfl (fun c67 => ?_) (fun c67 => ?_)
      · skip
        refine tr_seq (fun K24 hK24 => ?_)
        -- region 15: ref.go:156
        refine tr_region ?_
        refine tr_val (ov_move rfl rfl) rfl rfl rfl ?_
        refine tr_val (ov_assign rfl rfl) rfl rfl rfl ?_
        refine tr_nil (hK24 _ _ (TrC.keep [2, 67, 26, 6, 5, 3, 14, 4, 0] ?_))
        show TrC _ _ _ _ [(2, _), (67, _), (26, _), (6, _), (5, _), (3, _), (14, _), (4, _), (0, _)] _ _
        refine tr_ret (post_ret1 (.inr rfl) rfl rfl ?_)
        exact ⟨A1, c1, O, rfl, grw_end hG (by rw [show k = L.length by omega] at hl; exact hl) (by omega) hall, H⟩
      · skip
        refine tr_skip (hK22 _ _ (TrC.keep [67, 26, 6, 5, 3, 14, 4, 0] ?_))
        show TrC _ _ _ _ [(67, _), (26, _), (6, _), (5, _), (3, _), (14, _), (4, _), (0, _)] _ _
        refine tr_seq (fun K25 hK25 => ?_)
        -- region 16: ref.go:158
        have hl1 := hl.2.1
        have hcn := hG.cnt
        refine tr_region ?_
        refine tr_val (ov_move rfl rfl) rfl rfl rfl ?_
        refine tr_val (ov_move rfl rfl) rfl rfl rfl ?_
        refine tr_val (ov_indexAddrR (H.rd0 hR) rfl Try.underlying33 (Try.sizeOf40 _) rfl rfl (by omega) (by omega)) rfl rfl rfl ?_
        refine tr_val (ld_Span (H.rd0 hR) rfl (Try.isAgg40 _) (Try.sizeOf40 _) rfl (by omega) (by omega)) rfl rfl rfl ?_
        refine tr_alloc H rfl (Try.zeroValue40 _) rfl rfl rfl rfl ?_
        intro bb w9 hbb H
        first | (refine tr_storeW H.get0 rfl (Try.sizeOf40 _) rfl rfl rfl rfl rfl rfl rfl rfl ?_; intro w10 U; have H := H.upd0 U; clear U) | (refine tr_storeW H.get1 rfl (Try.sizeOf40 _) rfl rfl rfl rfl rfl rfl rfl rfl ?_; intro w10 U; have H := H.upd1 U; clear U) | (refine tr_storeW H.get2 rfl (Try.sizeOf40 _) rfl rfl rfl rfl rfl rfl rfl rfl ?_; intro w10 U; have H := H.upd2 U; clear U) | (refine tr_storeW H.get3 rfl (Try.sizeOf40 _) rfl rfl rfl rfl rfl rfl rfl rfl ?_; intro w10 U; have H := H.upd3 U; clear U) | (refine tr_storeW H.get4 rfl (Try.sizeOf40 _) rfl rfl rfl rfl rfl rfl rfl rfl ?_; intro w10 U; have H := H.upd4 U; clear U) | (refine tr_storeW H.get5 rfl (Try.sizeOf40 _) rfl rfl rfl rfl rfl rfl rfl rfl ?_; intro w10 U; have H := H.upd5 U; clear U)
        refine tr_nil (hK25 _ _ (TrC.keep [8, 67, 26, 6, 5, 3, 14, 4, 0] ?_))
        show TrC _ _ _ _ [(8, _), (67, _), (26, _), (6, _), (5, _), (3, _), (14, _), (4, _), (0, _)] _ _
        refine tr_seq (fun K26 hK26 => ?_)
        refine tr_seq (fun K27 hK27 => ?_)
        -- region 17: ref.go:159
        refine tr_region ?_
        refine tr_val (ov_assign rfl rfl) rfl rfl rfl ?_
        refine tr_nil (hK27 _ _ (TrC.keep [9, 8, 67, 26, 6, 5, 3, 14, 4, 0] ?_))
        show TrC _ _ _ _ [(9, _), (8, _), (67, _), (26, _), (6, _), (5, _), (3, _), (14, _), (4, _), (0, _)] _ _
        refine tr_block ?_
        have hkl : k = L.length := by omega
        refine tr_loop_ (X := Int × Bool) [8, 67, 26, 6, 5, 3, 14, 4, 0] (fun ⟨b, ag⟩ => [(9, .bool ag)]) (fun ⟨b, ag⟩ w' => Gr L (gt L n).1 b ∧ (ag = false → Stable L L.length (gt L n).1 b) ∧ SH w noBlocks [blk bb 40 [.int .i64 (gt L n).1, .int .i64 b], vec A1 c1 40 2 encSpan O] w') (fun ⟨b, ag⟩ => (1125899906842624 - b).toNat * 2 + ag.toNat) (⟨(gt L n).2, true⟩) (Sub.cons rfl (Sub.cons rfl (Sub.cons rfl (Sub.cons rfl (Sub.cons rfl (Sub.cons rfl (Sub.cons rfl (Sub.cons rfl (Sub.cons rfl (Sub.cons rfl Sub.nil)))))))))) (⟨gr_start (by omega) (by omega) (hall _ (gt_mem (by omega) (by omega))), fun h => (by cases h), H⟩) ?_
        rintro ⟨b, ag⟩ w11 ⟨hg, hst, H⟩ K28 hK28
        show TrC _ _ _ _ [(9, _), (8, _), (67, _), (26, _), (6, _), (5, _), (3, _), (14, _), (4, _), (0, _)] _ _
        refine tr_seq (fun K29 hK29 => ?_)
        refine tr_seq (fun K30 hK30 => ?_)
        -- region 18: ref.go:159
        refine tr_region ?_
        refine tr_val (ov_move rfl rfl) rfl rfl rfl ?_
        refine tr_nil (hK30 _ _ (TrC.keep [73, 9, 8, 67, 26, 6, 5, 3, 14, 4, 0] ?_))
        show TrC _ _ _ _ [(73, _), (9, _), (8, _), (67, _), (26, _), (6, _), (5, _), (3, _), (14, _), (4, _), (0, _)] _ _
        first | refine tr_cond rfl (fun c73 => ?_) (fun c73 => ?_) | refine tr_condb rfl (fun c73 => ?_) (fun c73 => ?_)
        · subst c73
          refine tr_skip (hK29 _ _ (TrC.keep [73, 9, 8, 67, 26, 6, 5, 3, 14, 4, 0] ?_))
          show TrC _ _ _ _ [(73, _), (9, _), (8, _), (67, _), (26, _), (6, _), (5, _), (3, _), (14, _), (4, _), (0, _)] _ _
          refine tr_block ?_
          refine tr_seq (fun K31 hK31 => ?_)
          -- region 19: ref.go:160
          refine tr_region ?_
          refine tr_val (ov_assign rfl rfl) rfl rfl rfl ?_
          refine tr_nil (hK31 _ _ (TrC.keep [9, 73, 8, 67, 26, 6, 5, 3, 14, 4, 0] ?_))
          show TrC _ _ _ _ [(9, _), (73, _), (8, _), (67, _), (26, _), (6, _), (5, _), (3, _), (14, _), (4, _), (0, _)] _ _
          refine tr_seq (fun K32 hK32 => ?_)
          -- region 20: ref.go:161
          refine tr_region ?_
          refine tr_val (ov_assign rfl rfl) rfl rfl rfl ?_
          refine tr_nil (hK32 _ _ (TrC.keep [10, 9, 73, 8, 67, 26, 6, 5, 3, 14, 4, 0] ?_))
          show TrC _ _ _ _ [(10, _), (9, _), (73, _), (8, _), (67, _), (26, _), (6, _), (5, _), (3, _), (14, _), (4, _), (0, _)] _ _
          refine tr_block ?_
          refine tr_loop_ (X := Int × Int × Bool) [73, 8, 67, 26, 6, 5, 3, 14, 4, 0] (fun ⟨k2, b2, ag2⟩ => [(10, .int .i64 k2), (9, .bool ag2)]) (fun ⟨k2, b2, ag2⟩ w' => 0 ≤ k2 ∧ k2 ≤ L.length ∧ Gr L (gt L n).1 b2 ∧ b ≤ b2 ∧ (ag2 = true → b < b2) ∧ (ag2 = false → b2 = b ∧ Stable L k2 (gt L n).1 b) ∧ SH w noBlocks [blk bb 40 [.int .i64 (gt L n).1, .int .i64 b2], vec A1 c1 40 2 encSpan O] w') (fun ⟨k2, b2, ag2⟩ => (L.length - k2).toNat) (⟨0, b, false⟩) (Sub.cons rfl (Sub.cons rfl (Sub.cons rfl (Sub.cons rfl (Sub.cons rfl (Sub.cons rfl (Sub.cons rfl (Sub.cons rfl (Sub.cons rfl (Sub.cons rfl (Sub.cons rfl (Sub.cons rfl Sub.nil)))))))))))) (⟨by omega, by omega, hg, by omega, fun h => (by cases h), fun _ => ⟨rfl, stable_start⟩, H⟩) ?_
          rintro ⟨k2, b2, ag2⟩ w12 ⟨hk20, hk21, hg2, hb2, h3, h4, H⟩ K33 hK33
          show TrC _ _ _ _ [(10, _), (9, _), (73, _), (8, _), (67, _), (26, _), (6, _), (5, _), (3, _), (14, _), (4, _), (0, _)] _ _
          refine tr_seq (fun K34 hK34 => ?_)
          refine tr_seq (fun K35 hK35 => ?_)
          -- region 21: ref.go:161
          refine tr_region ?_
          refine tr_val (ov_move rfl rfl) rfl rfl rfl ?_
          refine tr_val (ov_move rfl rfl) rfl rfl rfl ?_
          refine tr_val (ov_len rfl rfl Try.underlying33 rfl) rfl rfl rfl ?_
          refine tr_val (ov_lss rfl rfl rfl) rfl rfl rfl ?_
          refine tr_nil (hK35 _ _ (TrC.keep [77, 10, 9, 73, 8, 67, 26, 6, 5, 3, 14, 4, 0] ?_))
          show TrC _ _ _ _ [(77, _), (10, _), (9, _), (73, _), (8, _), (67, _), (26, _), (6, _), (5, _), (3, _), (14, _), (4, _), (0, _)] _ _
          first | refine tr_cond rfl (fun c77 => ?_) (fun c77 => ?_) | refine tr_condb rfl (fun c77 => ?_) (fun c77 => ?_)
          · skip
            refine tr_skip (hK34 _ _ (TrC.keep [77, 10, 9, 73, 8, 67, 26, 6, 5, 3, 14, 4, 0] ?_))
            show TrC _ _ _ _ [(77, _), (10, _), (9, _), (73, _), (8, _), (67, _), (26, _), (6, _), (5, _), (3, _), (14, _), (4, _), (0, _)] _ _
            refine tr_seq (fun K36 hK36 => ?_)
            refine tr_block ?_
            refine tr_seq (fun K37 hK37 => ?_)
            -- region 23: ref.go:162
            refine tr_quiet mixed (by kernel_rfl) H ?_
            refine tq_val (fun _ H => ov_move rfl rfl) rfl rfl rfl ?_
            refine tq_val (fun _ H => ov_move rfl rfl) rfl rfl rfl ?_
            refine tq_val (fun _ H => ov_indexAddrR (H.rd0 hR) rfl Try.underlying33 (Try.sizeOf40 _) rfl rfl (by omega) (by omega)) rfl rfl rfl ?_
            refine tq_val (fun _ H => ov_fieldAddr rfl Try.underlying40 rfl (Try.sizeOf2 _) (by decide) rfl) rfl rfl rfl ?_
            refine tq_val (fun _ H => ld_Span_0 (H.rd0 hR) rfl (Try.isAgg2 _) rfl (by omega) (by omega)) rfl rfl rfl ?_
            refine tq_val (fun _ H => ov_fieldAddr rfl Try.underlying40 rfl (Try.sizeOf2 _) (by decide) rfl) rfl rfl rfl ?_
            first | refine tq_val (fun _ H => ov_load_blk H.get0 rfl (Try.isAgg2 _) rfl rfl rfl) rfl rfl rfl ?_ | refine tq_val (fun _ H => ov_load_blk H.get1 rfl (Try.isAgg2 _) rfl rfl rfl) rfl rfl rfl ?_ | refine tq_val (fun _ H => ov_load_blk H.get2 rfl (Try.isAgg2 _) rfl rfl rfl) rfl rfl rfl ?_ | refine tq_val (fun _ H => ov_load_blk H.get3 rfl (Try.isAgg2 _) rfl rfl rfl) rfl rfl rfl ?_ | refine tq_val (fun _ H => ov_load_blk H.get4 rfl (Try.isAgg2 _) rfl rfl rfl) rfl rfl rfl ?_ | refine tq_val (fun _ H => ov_load_blk H.get5 rfl (Try.isAgg2 _) rfl rfl rfl) rfl rfl rfl ?_
            refine tq_val (fun _ H => ov_geq rfl rfl rfl) rfl rfl rfl ?_
            refine tq_val (fun _ H => ov_move rfl rfl) rfl rfl rfl ?_
            first | refine tq_split (t := 88) rfl (fun s88 => ?_) (fun s88 => ?_) | refine tq_splitb (t := 88) rfl (fun s88 => ?_) (fun s88 => ?_)
            · skip
              refine tq_val (fun _ H => ov_move rfl rfl) rfl rfl rfl ?_
              refine tq_val (fun _ H => ov_move rfl rfl) rfl rfl rfl ?_
              refine tq_val (fun _ H => ov_indexAddrR (H.rd0 hR) rfl Try.underlying33 (Try.sizeOf40 _) rfl rfl (by omega) (by omega)) rfl rfl rfl ?_
              refine tq_val (fun _ H => ov_fieldAddr rfl Try.underlying40 rfl (Try.sizeOf2 _) (by decide) rfl) rfl rfl rfl ?_
              refine tq_val (fun _ H => ld_Span_0 (H.rd0 hR) rfl (Try.isAgg2 _) rfl (by omega) (by omega)) rfl rfl rfl ?_
              refine tq_val (fun _ H => ov_fieldAddr rfl Try.underlying40 rfl (Try.sizeOf2 _) (by decide) rfl) rfl rfl rfl ?_
              first | refine tq_val (fun _ H => ov_load_blk H.get0 rfl (Try.isAgg2 _) rfl rfl rfl) rfl rfl rfl ?_ | refine tq_val (fun _ H => ov_load_blk H.get1 rfl (Try.isAgg2 _) rfl rfl rfl) rfl rfl rfl ?_ | refine tq_val (fun _ H => ov_load_blk H.get2 rfl (Try.isAgg2 _) rfl rfl rfl) rfl rfl rfl ?_ | refine tq_val (fun _ H => ov_load_blk H.get3 rfl (Try.isAgg2 _) rfl rfl rfl) rfl rfl rfl ?_ | refine tq_val (fun _ H => ov_load_blk H.get4 rfl (Try.isAgg2 _) rfl rfl rfl) rfl rfl rfl ?_ | refine tq_val (fun _ H => ov_load_blk H.get5 rfl (Try.isAgg2 _) rfl rfl rfl) rfl rfl rfl ?_
              refine tq_val (fun _ H => ov_leq rfl rfl rfl) rfl rfl rfl ?_
              refine tq_val (fun _ H => ov_pick (vb := undef) rfl rfl rfl rfl) rfl rfl rfl ?_
              refine tq_val (fun _ H => ov_move rfl rfl) rfl rfl rfl ?_
              first | refine tq_split (t := 98) rfl (fun s98 => ?_) (fun s98 => ?_) | refine tq_splitb (t := 98) rfl (fun s98 => ?_) (fun s98 => ?_)
              · skip
                refine tq_val (fun _ H => ov_move rfl rfl) rfl rfl rfl ?_
                refine tq_val (fun _ H => ov_move rfl rfl) rfl rfl rfl ?_
                refine tq_val (fun _ H => ov_indexAddrR (H.rd0 hR) rfl Try.underlying33 (Try.sizeOf40 _) rfl rfl (by omega) (by omega)) rfl rfl rfl ?_
                refine tq_val (fun _ H => ov_fieldAddr rfl Try.underlying40 rfl (Try.sizeOf2 _) (by decide) rfl) rfl rfl rfl ?_
                refine tq_val (fun _ H => ld_Span_1 (H.rd0 hR) rfl (Try.isAgg2 _) rfl (by omega) (by omega)) rfl rfl rfl ?_
                refine tq_val (fun _ H => ov_fieldAddr rfl Try.underlying40 rfl (Try.sizeOf2 _) (by decide) rfl) rfl rfl rfl ?_
                first | refine tq_val (fun _ H => ov_load_blk H.get0 rfl (Try.isAgg2 _) rfl rfl rfl) rfl rfl rfl ?_ | refine tq_val (fun _ H => ov_load_blk H.get1 rfl (Try.isAgg2 _) rfl rfl rfl) rfl rfl rfl ?_ | refine tq_val (fun _ H => ov_load_blk H.get2 rfl (Try.isAgg2 _) rfl rfl rfl) rfl rfl rfl ?_ | refine tq_val (fun _ H => ov_load_blk H.get3 rfl (Try.isAgg2 _) rfl rfl rfl) rfl rfl rfl ?_ | refine tq_val (fun _ H => ov_load_blk H.get4 rfl (Try.isAgg2 _) rfl rfl rfl) rfl rfl rfl ?_ | refine tq_val (fun _ H => ov_load_blk H.get5 rfl (Try.isAgg2 _) rfl rfl rfl) rfl rfl rfl ?_
                refine tq_val (fun _ H => ov_gtr rfl rfl rfl) rfl rfl rfl ?_
                refine tq_val (fun _ H => ov_pick (vb := undef) rfl rfl rfl rfl) rfl rfl rfl ?_
                refine tq_nil ?_
                intro w13 H
                refine hK37 _ _ (TrC.keep [107, 77, 10, 9, 73, 8, 67, 26, 6, 5, 3, 14, 4, 0] ?_)
                show TrC _ _ _ _ [(107, _), (77, _), (10, _), (9, _), (73, _), (8, _), (67, _), (26, _), (6, _), (5, _), (3, _), (14, _), (4, _), (0, _)] _ _
                first | refine tr_cond rfl (fun c107 => ?_) (fun c107 => ?_) | refine tr_condb rfl (fun c107 => ?_) (fun c107 => ?_)
                · skip
                  refine tr_seq (fun K38 hK38 => ?_)
                  -- region 24: ref.go:163
                  refine tr_region ?_
                  refine tr_val (ov_move rfl rfl) rfl rfl rfl ?_
                  refine tr_val (ov_move rfl rfl) rfl rfl rfl ?_
                  refine tr_val (ov_indexAddrR (H.rd0 hR) rfl Try.underlying33 (Try.sizeOf40 _) rfl rfl (by omega) (by omega)) rfl rfl rfl ?_
                  refine tr_val (ov_fieldAddr rfl Try.underlying40 rfl (Try.sizeOf2 _) (by decide) rfl) rfl rfl rfl ?_
                  refine tr_val (ld_Span_1 (H.rd0 hR) rfl (Try.isAgg2 _) rfl (by omega) (by omega)) rfl rfl rfl ?_
                  refine tr_val (ov_fieldAddr rfl Try.underlying40 rfl (Try.sizeOf2 _) (by decide) rfl) rfl rfl rfl ?_
                  first | (refine tr_store H.get0 rfl (Try.sizeOf2 _) rfl rfl rfl rfl rfl rfl rfl ?_; intro w14 U; have H := H.upd0 U; clear U) | (refine tr_store H.get1 rfl (Try.sizeOf2 _) rfl rfl rfl rfl rfl rfl rfl ?_; intro w14 U; have H := H.upd1 U; clear U) | (refine tr_store H.get2 rfl (Try.sizeOf2 _) rfl rfl rfl rfl rfl rfl rfl ?_; intro w14 U; have H := H.upd2 U; clear U) | (refine tr_store H.get3 rfl (Try.sizeOf2 _) rfl rfl rfl rfl rfl rfl rfl ?_; intro w14 U; have H := H.upd3 U; clear U) | (refine tr_store H.get4 rfl (Try.sizeOf2 _) rfl rfl rfl rfl rfl rfl rfl ?_; intro w14 U; have H := H.upd4 U; clear U) | (refine tr_store H.get5 rfl (Try.sizeOf2 _) rfl rfl rfl rfl rfl rfl rfl ?_; intro w14 U; have H := H.upd5 U; clear U)
                  try simp only [List.set_cons_zero, List.set_cons_succ, Nat.zero_add] at H
                  refine tr_nil (hK38 _ _ (TrC.keep [107, 77, 10, 9, 73, 8, 67, 26, 6, 5, 3, 14, 4, 0] ?_))
                  show TrC _ _ _ _ [(107, _), (77, _), (10, _), (9, _), (73, _), (8, _), (67, _), (26, _), (6, _), (5, _), (3, _), (14, _), (4, _), (0, _)] _ _
                  -- region 25: ref.go:164
                  refine tr_region ?_
                  refine tr_val (ov_assign rfl rfl) rfl rfl rfl ?_
                  refine tr_nil (hK36 _ _ (TrC.keep [9, 107, 77, 10, 73, 8, 67, 26, 6, 5, 3, 14, 4, 0] ?_))
                  show TrC _ _ _ _ [(9, _), (107, _), (77, _), (10, _), (73, _), (8, _), (67, _), (26, _), (6, _), (5, _), (3, _), (14, _), (4, _), (0, _)] _ _
                  -- region 22: ref.go:161
                  refine tr_region ?_
                  refine tr_val (ov_move rfl rfl) rfl rfl rfl ?_
                  refine tr_val (ov_add rfl rfl rfl (w64 (by omega))) rfl rfl rfl ?_
                  refine tr_val (ov_assign rfl rfl) rfl rfl rfl ?_
                  skip
                  exact tr_nil (hK33 (⟨k2 + 1, (gt L k2).2, true⟩) _ _ (⟨by omega, by omega, gr_step hg2 hk20 (by omega) (hall _ (gt_mem hk20 (by omega))) (by omega) (by omega) (by omega), by omega, fun _ => by omega, fun h => (by cases h), H⟩) (by first | omega | (dsimp only; omega)) (Sub.cons rfl (Sub.cons rfl (Sub.cons rfl (Sub.cons rfl (Sub.cons rfl (Sub.cons rfl (Sub.cons rfl (Sub.cons rfl (Sub.cons rfl (Sub.cons rfl (Sub.cons rfl (Sub.cons rfl Sub.nil)))))))))))))
                · skip
                  refine tr_skip (hK36 _ _ (TrC.keep [107, 77, 10, 9, 73, 8, 67, 26, 6, 5, 3, 14, 4, 0] ?_))
                  show TrC _ _ _ _ [(107, _), (77, _), (10, _), (9, _), (73, _), (8, _), (67, _), (26, _), (6, _), (5, _), (3, _), (14, _), (4, _), (0, _)] _ _
                  -- region 22: ref.go:161
                  refine tr_region ?_
                  refine tr_val (ov_move rfl rfl) rfl rfl rfl ?_
                  refine tr_val (ov_add rfl rfl rfl (w64 (by omega))) rfl rfl rfl ?_
                  refine tr_val (ov_assign rfl rfl) rfl rfl rfl ?_
                  skip
                  exact tr_nil (hK33 (⟨k2 + 1, b2, ag2⟩) _ _ (⟨by omega, by omega, hg2, hb2, h3, fun h => ⟨(h4 h).1, stable_step (h4 h).2 hk20 (by omega) (fun p q => by have := (h4 h).1; omega)⟩, H⟩) (by first | omega | (dsimp only; omega)) (Sub.cons rfl (Sub.cons rfl (Sub.cons rfl (Sub.cons rfl (Sub.cons rfl (Sub.cons rfl (Sub.cons rfl (Sub.cons rfl (Sub.cons rfl (Sub.cons rfl (Sub.cons rfl (Sub.cons rfl Sub.nil)))))))))))))
              · skip
                refine tq_pass rfl rfl rfl ?_
                refine tq_pass rfl rfl rfl ?_
                refine tq_pass rfl rfl rfl ?_
                refine tq_pass rfl rfl rfl ?_
                refine tq_pass rfl rfl rfl ?_
                refine tq_pass rfl rfl rfl ?_
                refine tq_pass rfl rfl rfl ?_
                refine tq_pass rfl rfl rfl ?_
                refine tq_val (fun _ H => ov_pick_f (va := undef) rfl rfl rfl rfl) rfl rfl rfl ?_
                refine tq_nil ?_
                intro w15 H
                refine hK37 _ _ (TrC.keep [107, 77, 10, 9, 73, 8, 67, 26, 6, 5, 3, 14, 4, 0] ?_)
                show TrC _ _ _ _ [(107, _), (77, _), (10, _), (9, _), (73, _), (8, _), (67, _), (26, _), (6, _), (5, _), (3, _), (14, _), (4, _), (0, _)] _ _
                refine tr_cond_f rfl rfl ?_
                refine tr_skip (hK36 _ _ (TrC.keep [107, 77, 10, 9, 73, 8, 67, 26, 6, 5, 3, 14, 4, 0] ?_))
                show TrC _ _ _ _ [(107, _), (77, _), (10, _), (9, _), (73, _), (8, _), (67, _), (26, _), (6, _), (5, _), (3, _), (14, _), (4, _), (0, _)] _ _
                -- region 22: ref.go:161
                refine tr_region ?_
                refine tr_val (ov_move rfl rfl) rfl rfl rfl ?_
                refine tr_val (ov_add rfl rfl rfl (w64 (by omega))) rfl rfl rfl ?_
                refine tr_val (ov_assign rfl rfl) rfl rfl rfl ?_
                skip
                exact tr_nil (hK33 (⟨k2 + 1, b2, ag2⟩) _ _ (⟨by omega, by omega, hg2, hb2, h3, fun h => ⟨(h4 h).1, stable_step (h4 h).2 hk20 (by omega) (fun p q => by have := (h4 h).1; omega)⟩, H⟩) (by first | omega | (dsimp only; omega)) (Sub.cons rfl (Sub.cons rfl (Sub.cons rfl (Sub.cons rfl (Sub.cons rfl (Sub.cons rfl (Sub.cons rfl (Sub.cons rfl (Sub.cons rfl (Sub.cons rfl (Sub.cons rfl (Sub.cons rfl Sub.nil)))))))))))))
            · skip
              refine tq_pass rfl rfl rfl ?_
              refine tq_pass rfl rfl rfl ?_
              refine tq_pass rfl rfl rfl ?_
              refine tq_pass rfl rfl rfl ?_
              refine tq_pass rfl rfl rfl ?_
              refine tq_pass rfl rfl rfl ?_
              refine tq_pass rfl rfl rfl ?_
              refine tq_pass rfl rfl rfl ?_
              refine tq_val (fun _ H => ov_pick_f (va := undef) rfl rfl rfl rfl) rfl rfl rfl ?_
              refine tq_val (fun _ H => ov_move rfl rfl) rfl rfl rfl ?_
              refine tq_pass rfl rfl rfl ?_
              refine tq_pass rfl rfl rfl ?_
              refine tq_pass rfl rfl rfl ?_
              refine tq_pass rfl rfl rfl ?_
              refine tq_pass rfl rfl rfl ?_
              refine tq_pass rfl rfl rfl ?_
              refine tq_pass rfl rfl rfl ?_
              refine tq_pass rfl rfl rfl ?_
              refine tq_val (fun _ H => ov_pick_f (va := undef) rfl rfl rfl rfl) rfl rfl rfl ?_
              refine tq_nil ?_
              intro w16 H
              refine hK37 _ _ (TrC.keep [107, 77, 10, 9, 73, 8, 67, 26, 6, 5, 3, 14, 4, 0] ?_)
              show TrC _ _ _ _ [(107, _), (77, _), (10, _), (9, _), (73, _), (8, _), (67, _), (26, _), (6, _), (5, _), (3, _), (14, _), (4, _), (0, _)] _ _
              refine tr_cond_f rfl rfl ?_
              refine tr_skip (hK36 _ _ (TrC.keep [107, 77, 10, 9, 73, 8, 67, 26, 6, 5, 3, 14, 4, 0] ?_))
              show TrC _ _ _ _ [(107, _), (77, _), (10, _), (9, _), (73, _), (8, _), (67, _), (26, _), (6, _), (5, _), (3, _), (14, _), (4, _), (0, _)] _ _
              -- region 22: ref.go:161
              refine tr_region ?_
              refine tr_val (ov_move rfl rfl) rfl rfl rfl ?_
              refine tr_val (ov_add rfl rfl rfl (w64 (by omega))) rfl rfl rfl ?_
              refine tr_val (ov_assign rfl rfl) rfl rfl rfl ?_
              skip
              exact tr_nil (hK33 (⟨k2 + 1, b2, ag2⟩) _ _ (⟨by omega, by omega, hg2, hb2, h3, fun h => ⟨(h4 h).1, stable_step (h4 h).2 hk20 (by omega) (fun p q => by have := (h4 h).1; omega)⟩, H⟩) (by first | omega | (dsimp only; omega)) (Sub.cons rfl (Sub.cons rfl (Sub.cons rfl (Sub.cons rfl (Sub.cons rfl (Sub.cons rfl (Sub.cons rfl (Sub.cons rfl (Sub.cons rfl (Sub.cons rfl (Sub.cons rfl (Sub.cons rfl Sub.nil)))))))))))))
          · skip
            skip
            exact tr_exit (hK28 (⟨b2, ag2⟩) _ _ (⟨hg2, fun h => by have h5 := h4 h; rw [show k2 = L.length by omega] at h5; rw [h5.1]; exact h5.2, H⟩) (gr_mu hg2 hb2 h3 (fun h => (h4 h).1)) (Sub.cons rfl (Sub.cons rfl (Sub.cons rfl (Sub.cons rfl (Sub.cons rfl (Sub.cons rfl (Sub.cons rfl (Sub.cons rfl (Sub.cons rfl (Sub.cons rfl Sub.nil)))))))))))
        · subst c73
          refine tr_exit (hK26 _ _ (TrC.keep [73, 9, 8, 67, 26, 6, 5, 3, 14, 4, 0] ?_))
          show TrC _ _ _ _ [(73, _), (9, _), (8, _), (67, _), (26, _), (6, _), (5, _), (3, _), (14, _), (4, _), (0, _)] _ _
          -- region 26: ref.go:168
          refine tr_region ?_
          refine tr_val (ov_move rfl rfl) rfl rfl rfl ?_
          first | refine tr_val (ov_load_blkN H.get0 rfl (Try.isAgg40 _) (Try.sizeOf40 _) rfl rfl rfl) rfl rfl rfl ?_ | refine tr_val (ov_load_blkN H.get1 rfl (Try.isAgg40 _) (Try.sizeOf40 _) rfl rfl rfl) rfl rfl rfl ?_ | refine tr_val (ov_load_blkN H.get2 rfl (Try.isAgg40 _) (Try.sizeOf40 _) rfl rfl rfl) rfl rfl rfl ?_ | refine tr_val (ov_load_blkN H.get3 rfl (Try.isAgg40 _) (Try.sizeOf40 _) rfl rfl rfl) rfl rfl rfl ?_ | refine tr_val (ov_load_blkN H.get4 rfl (Try.isAgg40 _) (Try.sizeOf40 _) rfl rfl rfl) rfl rfl rfl ?_ | refine tr_val (ov_load_blkN H.get5 rfl (Try.isAgg40 _) (Try.sizeOf40 _) rfl rfl rfl) rfl rfl rfl ?_
          refine tr_buildSlice H rfl Try.underlying33 info40 rfl (fun ρ k => bs1 k rfl) (by decide) (by decide) (fill_Span_1 _ _) rfl rfl rfl ?_
          intro b2 w17 hb2 H
          refine tr_append H.get2 (rd_blk [((gt L n).1, b)] H.get0 rfl lenSpan) rfl rfl rfl Try.underlying33 info40 rfl rfl (show Try.t40.bytes = 16 from rfl) rfl (by decide) lenSpan oneSpan (by simp; omega) (by simp [maxLen]; omega) rfl rfl rfl ?_
          intro A' c' w18 U; have H := H.upd2 U; clear U
          refine tr_val (ov_assign rfl rfl) rfl rfl rfl ?_
          have hG' := grw_step hG (by rw [hkl] at hl; exact hl) (by omega) hall rfl hg (hst rfl)
          have hcn' := hG'.cnt
          simp only [List.length_append, List.length_cons, List.length_nil] at hcn'
          exact tr_nil (hK11 (⟨O ++ [((gt L n).1, b)], A', c'⟩) _ _ (⟨hG', H.drop0.drop0⟩) (by dsimp only; simp only [List.length_append, List.length_cons, List.length_nil]; omega) (Sub.cons rfl (Sub.cons rfl (Sub.cons rfl (Sub.cons rfl Sub.nil)))))

end Go.Proofs.Ytnmglobfdlnenaa
