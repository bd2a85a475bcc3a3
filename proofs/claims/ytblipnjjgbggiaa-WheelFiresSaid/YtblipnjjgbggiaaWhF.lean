/- Contracts of wheel.Wheel: WheelFires. Conditions: none. -/
import Derived.Test.YtblipnjjgbggiaaWheelF
namespace Go.Proofs.Ytblipnjjgbggiaa
open Go Go.RowKit
set_option linter.unusedVariables false
set_option linter.unusedSimpArgs false

theorem neq_ok {x : Int} (h : 0 ≤ x) : (!(decide ((if okD x then (0 : Int) else 2) = 0) == decide (x ≤ 1125899906842624))) = false := by
  unfold okD
  by_cases q : x ≤ 1125899906842624 <;> simp [h, q]
theorem neq_no {x : Int} (h : ¬ 0 ≤ x) : (!(decide ((if okD x then (0 : Int) else 2) = 0) == false)) = false := by
  unfold okD
  simp [h]

/-! curfew/curfewlaw12.WheelFires -/
set_option maxRecDepth 20000 in
theorem WheelFires_c (now : Int) (B : Option Addr) (c : Nat) (D : List Int) (B3 : Option Addr) (c3 : Nat) (S : List Int) (w : World) (hR : Rd w B 1 (D.map encI64)) (hS : Rd w B3 1 (S.map encI64)) : Does Try.prog 3 #[.int .i64 now, .slice B D.length c, .slice B3 S.length c3] w (fun v w' => v = .bool true ∧ SH w noBlocks [] w') := by
  refine does_enter3 Try.func3 rfl Try.ntmps3 rfl ?_
  have H := SH.start w noBlocks
  refine tr_seq (fun K1 hK1 => ?_)
  -- region 0: law.go:76
  refine tr_region ?_
  refine tr_val (ov_assign rfl rfl) rfl rfl rfl ?_
  refine tr_nil (hK1 _ _ (TrC.keep [6, 0, 1, 2] ?_))
  show TrC _ _ _ _ [(6, _), (0, _), (1, _), (2, _)] _ _
  refine tr_seq (fun K2 hK2 => ?_)
  refine tr_seq (fun K3 hK3 => ?_)
  -- region 1: law.go:77
  refine tr_region ?_
  refine tr_val (ov_move rfl rfl) rfl rfl rfl ?_
  refine tr_val (ov_len rfl rfl Try.underlying22 rfl) rfl rfl rfl ?_
  refine tr_val (ov_gtr rfl rfl rfl) rfl rfl rfl ?_
  refine tr_val (ov_move rfl rfl) rfl rfl rfl ?_
  first | refine tr_split (t := 25) rfl (fun s25 => ?_) (fun s25 => ?_) | refine tr_splitb (t := 25) rfl (fun s25 => ?_) (fun s25 => ?_)
  · skip
    refine tr_pass rfl rfl rfl ?_
    refine tr_pass rfl rfl rfl ?_
    refine tr_pass rfl rfl rfl ?_
    refine tr_val (ov_pick (vb := undef) rfl rfl rfl rfl) rfl rfl rfl ?_
    refine tr_val (ov_move rfl rfl) rfl rfl rfl ?_
    refine tr_pass rfl rfl rfl ?_
    refine tr_pass rfl rfl rfl ?_
    refine tr_val (ov_pick (vb := undef) rfl rfl rfl rfl) rfl rfl rfl ?_
    refine tr_val (ov_move rfl rfl) rfl rfl rfl ?_
    refine tr_pass rfl rfl rfl ?_
    refine tr_pass rfl rfl rfl ?_
    refine tr_val (ov_pick (vb := undef) rfl rfl rfl rfl) rfl rfl rfl ?_
    refine tr_nil (hK3 _ _ (TrC.keep [37, 6, 0, 1, 2] ?_))
    show TrC _ _ _ _ [(37, _), (6, _), (0, _), (1, _), (2, _)] _ _
    refine tr_cond_t rfl rfl ?_
    refine tr_seq (fun K4 hK4 => ?_)
    -- region 2: law.go:78
    refine tr_region ?_
    refine tr_call (lives12_c _) rfl rfl rfl Try.call13 rfl rfl rfl ?_
    rintro _ w1 ⟨rfl, HC⟩
    have H := H.call0n HC
    refine tr_val (ov_assign rfl rfl) rfl rfl rfl ?_
    refine tr_nil (hK4 _ _ (TrC.keep [6, 37, 0, 1, 2] ?_))
    show TrC _ _ _ _ [(6, _), (37, _), (0, _), (1, _), (2, _)] _ _
    refine tr_ret (post_ret1 (.inr rfl) rfl rfl ?_)
    first | exact ⟨rfl, H⟩ | exact ⟨rfl, H.drop0.drop0⟩
  · skip
    refine tr_val (ov_move rfl rfl) rfl rfl rfl ?_
    refine tr_val (ov_len rfl rfl Try.underlying22 rfl) rfl rfl rfl ?_
    refine tr_val (ov_gtr rfl rfl rfl) rfl rfl rfl ?_
    refine tr_val (ov_pick_f (va := undef) rfl rfl rfl rfl) rfl rfl rfl ?_
    refine tr_val (ov_move rfl rfl) rfl rfl rfl ?_
    first | refine tr_split (t := 30) rfl (fun s30 => ?_) (fun s30 => ?_) | refine tr_splitb (t := 30) rfl (fun s30 => ?_) (fun s30 => ?_)
    · skip
      refine tr_pass rfl rfl rfl ?_
      refine tr_pass rfl rfl rfl ?_
      refine tr_val (ov_pick (vb := undef) rfl rfl rfl rfl) rfl rfl rfl ?_
      refine tr_val (ov_move rfl rfl) rfl rfl rfl ?_
      refine tr_pass rfl rfl rfl ?_
      refine tr_pass rfl rfl rfl ?_
      refine tr_val (ov_pick (vb := undef) rfl rfl rfl rfl) rfl rfl rfl ?_
      refine tr_nil (hK3 _ _ (TrC.keep [37, 6, 0, 1, 2] ?_))
      show TrC _ _ _ _ [(37, _), (6, _), (0, _), (1, _), (2, _)] _ _
      refine tr_cond_t rfl rfl ?_
      refine tr_seq (fun K5 hK5 => ?_)
      -- region 2: law.go:78
      refine tr_region ?_
      refine tr_call (lives12_c _) rfl rfl rfl Try.call13 rfl rfl rfl ?_
      rintro _ w2 ⟨rfl, HC⟩
      have H := H.call0n HC
      refine tr_val (ov_assign rfl rfl) rfl rfl rfl ?_
      refine tr_nil (hK5 _ _ (TrC.keep [6, 37, 0, 1, 2] ?_))
      show TrC _ _ _ _ [(6, _), (37, _), (0, _), (1, _), (2, _)] _ _
      refine tr_ret (post_ret1 (.inr rfl) rfl rfl ?_)
      first | exact ⟨rfl, H⟩ | exact ⟨rfl, H.drop0.drop0⟩
    · skip
      refine tr_val (ov_move rfl rfl) rfl rfl rfl ?_
      refine tr_val (ov_lss rfl rfl rfl) rfl rfl rfl ?_
      refine tr_val (ov_pick_f (va := undef) rfl rfl rfl rfl) rfl rfl rfl ?_
      refine tr_val (ov_move rfl rfl) rfl rfl rfl ?_
      first | refine tr_split (t := 34) rfl (fun s34 => ?_) (fun s34 => ?_) | refine tr_splitb (t := 34) rfl (fun s34 => ?_) (fun s34 => ?_)
      · skip
        refine tr_pass rfl rfl rfl ?_
        refine tr_pass rfl rfl rfl ?_
        refine tr_val (ov_pick (vb := undef) rfl rfl rfl rfl) rfl rfl rfl ?_
        refine tr_nil (hK3 _ _ (TrC.keep [37, 6, 0, 1, 2] ?_))
        show TrC _ _ _ _ [(37, _), (6, _), (0, _), (1, _), (2, _)] _ _
        refine tr_cond_t rfl rfl ?_
        refine tr_seq (fun K6 hK6 => ?_)
        -- region 2: law.go:78
        refine tr_region ?_
        refine tr_call (lives12_c _) rfl rfl rfl Try.call13 rfl rfl rfl ?_
        rintro _ w3 ⟨rfl, HC⟩
        have H := H.call0n HC
        refine tr_val (ov_assign rfl rfl) rfl rfl rfl ?_
        refine tr_nil (hK6 _ _ (TrC.keep [6, 37, 0, 1, 2] ?_))
        show TrC _ _ _ _ [(6, _), (37, _), (0, _), (1, _), (2, _)] _ _
        refine tr_ret (post_ret1 (.inr rfl) rfl rfl ?_)
        first | exact ⟨rfl, H⟩ | exact ⟨rfl, H.drop0.drop0⟩
      · skip
        refine tr_val (ov_move rfl rfl) rfl rfl rfl ?_
        refine tr_val (ov_gtr rfl rfl rfl) rfl rfl rfl ?_
        refine tr_val (ov_pick_f (va := undef) rfl rfl rfl rfl) rfl rfl rfl ?_
        refine tr_nil (hK3 _ _ (TrC.keep [37, 6, 0, 1, 2] ?_))
        show TrC _ _ _ _ [(37, _), (6, _), (0, _), (1, _), (2, _)] _ _
        first | refine tr_cond rfl (fun c37 => ?_) (fun c37 => ?_) | refine tr_condb rfl (fun c37 => ?_) (fun c37 => ?_)
        · skip
          refine tr_seq (fun K7 hK7 => ?_)
          -- region 2: law.go:78
          refine tr_region ?_
          refine tr_call (lives12_c _) rfl rfl rfl Try.call13 rfl rfl rfl ?_
          rintro _ w4 ⟨rfl, HC⟩
          have H := H.call0n HC
          refine tr_val (ov_assign rfl rfl) rfl rfl rfl ?_
          refine tr_nil (hK7 _ _ (TrC.keep [6, 37, 0, 1, 2] ?_))
          show TrC _ _ _ _ [(6, _), (37, _), (0, _), (1, _), (2, _)] _ _
          refine tr_ret (post_ret1 (.inr rfl) rfl rfl ?_)
          first | exact ⟨rfl, H⟩ | exact ⟨rfl, H.drop0.drop0⟩
        · skip
          refine tr_skip (hK2 _ _ (TrC.keep [37, 6, 0, 1, 2] ?_))
          show TrC _ _ _ _ [(37, _), (6, _), (0, _), (1, _), (2, _)] _ _
          refine tr_seq (fun K8 hK8 => ?_)
          -- region 3: law.go:80
          refine tr_region ?_
          refine tr_val (ov_move rfl rfl) rfl rfl rfl ?_
          refine tr_call (wNew_c now _ (by omega)) rfl rfl rfl Try.call14 rfl rfl rfl ?_
          rintro _ w5 ⟨d, L0, rfl, hX0, HC⟩
          have H := H.call0r HC
          refine tr_val (ov_assign rfl rfl) rfl rfl rfl ?_
          refine tr_nil (hK8 _ _ (TrC.keep [7, 37, 6, 0, 1, 2] ?_))
          show TrC _ _ _ _ [(7, _), (37, _), (6, _), (0, _), (1, _), (2, _)] _ _
          refine tr_seq (fun K9 hK9 => ?_)
          refine tr_seq (fun K10 hK10 => ?_)
          -- region 4: law.go:81
          refine tr_region ?_
          refine tr_val (ov_move rfl rfl) rfl rfl rfl ?_
          refine tr_val (ov_len rfl rfl Try.underlying22 rfl) rfl rfl rfl ?_
          refine tr_val (ov_move rfl rfl) rfl rfl rfl ?_
          refine tr_nil (hK10 _ _ (TrC.keep [43, 42, 41, 7, 37, 6, 0, 1, 2] ?_))
          show TrC _ _ _ _ [(43, _), (42, _), (41, _), (7, _), (37, _), (6, _), (0, _), (1, _), (2, _)] _ _
          refine tr_block ?_
          refine tr_loop_ (X := Int × List Res) [42, 41, 7, 37, 0, 1, 2] (fun ⟨i, L⟩ => [(43, .int .i64 i)]) (fun ⟨i, L⟩ w' => 0 ≤ i ∧ i ≤ D.length ∧ WheelX 65 117 161 30 d now (arL D i.toNat) L ∧ SH w noBlocks [pack L] w') (fun ⟨i, L⟩ => (D.length - i).toNat) (⟨0, L0⟩) (Sub.cons rfl (Sub.cons rfl (Sub.cons rfl (Sub.cons rfl (Sub.cons rfl (Sub.cons rfl (Sub.cons rfl (Sub.cons rfl Sub.nil)))))))) (⟨by omega, by omega, hX0, H⟩) ?_
          rintro ⟨i, L⟩ w6 ⟨hi0, hi1, hX, H⟩ K11 hK11
          show TrC _ _ _ _ [(43, _), (42, _), (41, _), (7, _), (37, _), (0, _), (1, _), (2, _)] _ _
          refine tr_seq (fun K12 hK12 => ?_)
          -- region 5: law.go:81
          refine tr_region ?_
          refine tr_val (ov_lss rfl rfl rfl) rfl rfl rfl ?_
          refine tr_nil (hK12 _ _ (TrC.keep [44, 43, 42, 41, 7, 37, 0, 1, 2] ?_))
          show TrC _ _ _ _ [(44, _), (43, _), (42, _), (41, _), (7, _), (37, _), (0, _), (1, _), (2, _)] _ _
          refine tr_seq (fun K13 hK13 => ?_)
          first | refine tr_cond rfl (fun c44 => ?_) (fun c44 => ?_) | refine tr_condb rfl (fun c44 => ?_) (fun c44 => ?_)
          · skip
            refine tr_skip (hK13 _ _ (TrC.keep [44, 43, 42, 41, 7, 37, 0, 1, 2] ?_))
            show TrC _ _ _ _ [(44, _), (43, _), (42, _), (41, _), (7, _), (37, _), (0, _), (1, _), (2, _)] _ _
            refine tr_seq (fun K14 hK14 => ?_)
            refine tr_block ?_
            refine tr_seq (fun K15 hK15 => ?_)
            -- region 6: law.go:81
            refine tr_region ?_
            refine tr_val (ov_move rfl rfl) rfl rfl rfl ?_
            refine tr_val (ov_indexAddrR (H.rd0 hR) rfl Try.underlying22 (Try.sizeOf2 _) rfl rfl (by omega) (by omega)) rfl rfl rfl ?_
            refine tr_val (ld_I64 (H.rd0 hR) rfl (Try.isAgg2 _) rfl (by omega) (by omega)) rfl rfl rfl ?_
            refine tr_val (ov_assign rfl rfl) rfl rfl rfl ?_
            refine tr_val (ov_assign rfl rfl) rfl rfl rfl ?_
            refine tr_nil (hK15 _ _ (TrC.keep [9, 8, 44, 43, 42, 41, 7, 37, 0, 1, 2] ?_))
            show TrC _ _ _ _ [(9, _), (8, _), (44, _), (43, _), (42, _), (41, _), (7, _), (37, _), (0, _), (1, _), (2, _)] _ _
            refine tr_seq (fun K16 hK16 => ?_)
            -- region 7: law.go:82
            refine tr_region ?_
            refine tr_val (ov_move rfl rfl) rfl rfl rfl ?_
            refine tr_val (ov_move rfl rfl) rfl rfl rfl ?_
            refine tr_val (ov_conv rfl Try.underlying3 Try.underlying28 rfl (wu64 (by omega))) rfl rfl rfl ?_
            refine tr_val (ov_move rfl rfl) rfl rfl rfl ?_
            refine tr_val (ov_build rfl (fun ρ k => bs3 k rfl rfl rfl) (bld30_0_1_2 _ _ _ _)) rfl rfl rfl ?_
            refine tr_call (wArm_c d now (arL D i.toNat) L _ hX H.get0 ⟨i, 7, gt D i⟩) rfl rfl rfl Try.call15 rfl rfl rfl ?_
            rintro _ w7 ⟨rfl, L1, hX1, HC⟩
            have H := H.call1 HC
            rw [ar_step hi0 (by omega)] at hX1 ⊢
            refine tr_val (ov_assign rfl rfl) rfl rfl rfl ?_
            refine tr_nil (hK16 _ _ (TrC.keep [10, 9, 44, 43, 42, 41, 7, 37, 0, 1, 2] ?_))
            show TrC _ _ _ _ [(10, _), (9, _), (44, _), (43, _), (42, _), (41, _), (7, _), (37, _), (0, _), (1, _), (2, _)] _ _
            refine tr_seq (fun K17 hK17 => ?_)
            -- region 8: law.go:82
            refine tr_region ?_
            refine tr_val (ov_move rfl rfl) rfl rfl rfl ?_
            refine tr_val (ov_eql rfl rfl rfl) rfl rfl rfl ?_
            refine tr_val (ov_move rfl rfl) rfl rfl rfl ?_
            refine tr_val (ov_geq rfl rfl rfl) rfl rfl rfl ?_
            refine tr_val (ov_move rfl rfl) rfl rfl rfl ?_
            first | refine tr_split (t := 58) rfl (fun s58 => ?_) (fun s58 => ?_) | refine tr_splitb (t := 58) rfl (fun s58 => ?_) (fun s58 => ?_)
            · skip
              refine tr_val (ov_move rfl rfl) rfl rfl rfl ?_
              refine tr_val (ov_leq rfl rfl rfl) rfl rfl rfl ?_
              refine tr_val (ov_pick (vb := undef) rfl rfl rfl rfl) rfl rfl rfl ?_
              refine tr_val (ov_neqb rfl Try.underlying4 rfl rfl) rfl rfl rfl ?_
              refine tr_nil (hK17 _ _ (TrC.keep [62, 9, 44, 43, 42, 41, 7, 37, 0, 1, 2] ?_))
              show TrC _ _ _ _ [(62, _), (9, _), (44, _), (43, _), (42, _), (41, _), (7, _), (37, _), (0, _), (1, _), (2, _)] _ _
              first | refine tr_cond rfl (fun c62 => ?_) (fun c62 => ?_) | refine tr_condb rfl (fun c62 => ?_) (fun c62 => ?_)
              · first | exact absurd (c62.symm.trans (neq_ok s58)) (by decide) | exact absurd (c62.symm.trans (neq_no s58)) (by decide)
              · skip
                refine tr_skip (hK14 _ _ (TrC.keep [62, 9, 44, 43, 42, 41, 7, 37, 0, 1, 2] ?_))
                show TrC _ _ _ _ [(62, _), (9, _), (44, _), (43, _), (42, _), (41, _), (7, _), (37, _), (0, _), (1, _), (2, _)] _ _
                -- region 10: law.go:81
                refine tr_region ?_
                refine tr_val (ov_add rfl rfl rfl (w64 (by omega))) rfl rfl rfl ?_
                refine tr_val (ov_move rfl rfl) rfl rfl rfl ?_
                skip
                exact tr_nil (hK11 (⟨i + 1, L1⟩) _ _ (⟨by omega, by omega, hX1, H⟩) (by first | omega | (dsimp only; omega)) (Sub.cons rfl (Sub.cons rfl (Sub.cons rfl (Sub.cons rfl (Sub.cons rfl (Sub.cons rfl (Sub.cons rfl (Sub.cons rfl Sub.nil)))))))))
            · skip
              refine tr_pass rfl rfl rfl ?_
              refine tr_pass rfl rfl rfl ?_
              refine tr_val (ov_pick_f (va := undef) rfl rfl rfl rfl) rfl rfl rfl ?_
              refine tr_val (ov_neqb rfl Try.underlying4 rfl rfl) rfl rfl rfl ?_
              refine tr_nil (hK17 _ _ (TrC.keep [62, 9, 44, 43, 42, 41, 7, 37, 0, 1, 2] ?_))
              show TrC _ _ _ _ [(62, _), (9, _), (44, _), (43, _), (42, _), (41, _), (7, _), (37, _), (0, _), (1, _), (2, _)] _ _
              first | refine tr_cond rfl (fun c62 => ?_) (fun c62 => ?_) | refine tr_condb rfl (fun c62 => ?_) (fun c62 => ?_)
              · first | exact absurd (c62.symm.trans (neq_ok s58)) (by decide) | exact absurd (c62.symm.trans (neq_no s58)) (by decide)
              · skip
                refine tr_skip (hK14 _ _ (TrC.keep [62, 9, 44, 43, 42, 41, 7, 37, 0, 1, 2] ?_))
                show TrC _ _ _ _ [(62, _), (9, _), (44, _), (43, _), (42, _), (41, _), (7, _), (37, _), (0, _), (1, _), (2, _)] _ _
                -- region 10: law.go:81
                refine tr_region ?_
                refine tr_val (ov_add rfl rfl rfl (w64 (by omega))) rfl rfl rfl ?_
                refine tr_val (ov_move rfl rfl) rfl rfl rfl ?_
                skip
                exact tr_nil (hK11 (⟨i + 1, L1⟩) _ _ (⟨by omega, by omega, hX1, H⟩) (by first | omega | (dsimp only; omega)) (Sub.cons rfl (Sub.cons rfl (Sub.cons rfl (Sub.cons rfl (Sub.cons rfl (Sub.cons rfl (Sub.cons rfl (Sub.cons rfl Sub.nil)))))))))
          · skip
            refine tr_exit (hK9 _ _ (TrC.keep [44, 43, 42, 41, 7, 37, 0, 1, 2] ?_))
            show TrC _ _ _ _ [(44, _), (43, _), (42, _), (41, _), (7, _), (37, _), (0, _), (1, _), (2, _)] _ _
            refine tr_seq (fun K18 hK18 => ?_)
            -- region 11: law.go:86
            have hi : i = D.length := by omega
            subst hi
            rw [Int.toNat_natCast] at hX
            refine tr_region ?_
            refine tr_val (ov_move rfl rfl) rfl rfl rfl ?_
            refine tr_val (ov_len rfl rfl Try.underlying22 rfl) rfl rfl rfl ?_
            refine tr_makeSlice false H rfl Try.underlying31 info4 rfl rfl rfl lenBo (by decide) rfl rfl (by omega) (by show Try.t4.bytes * _ ≤ _; rw [show Try.t4.bytes = 1 from rfl]; omega) (by omega) rfl rfl rfl ?_
            intro A2 c2 w9 H
            have H := H.top1
            rw [← fired_all] at hX
            have hM0 := Met.start D
            rw [Int.toNat_natCast] at H ⊢
            refine tr_val (ov_assign rfl rfl) rfl rfl rfl ?_
            refine tr_nil (hK18 _ _ (TrC.keep [11, 44, 43, 42, 41, 7, 37, 0, 1, 2] ?_))
            show TrC _ _ _ _ [(11, _), (44, _), (43, _), (42, _), (41, _), (7, _), (37, _), (0, _), (1, _), (2, _)] _ _
            refine tr_seq (fun K19 hK19 => ?_)
            -- region 12: law.go:87
            refine tr_region ?_
            refine tr_val (ov_move rfl rfl) rfl rfl rfl ?_
            refine tr_val (ov_assign rfl rfl) rfl rfl rfl ?_
            refine tr_nil (hK19 _ _ (TrC.keep [12, 11, 44, 43, 42, 41, 7, 37, 0, 1, 2] ?_))
            show TrC _ _ _ _ [(12, _), (11, _), (44, _), (43, _), (42, _), (41, _), (7, _), (37, _), (0, _), (1, _), (2, _)] _ _
            refine tr_seq (fun K20 hK20 => ?_)
            refine tr_seq (fun K21 hK21 => ?_)
            -- region 13: law.go:88
            refine tr_region ?_
            refine tr_val (ov_move rfl rfl) rfl rfl rfl ?_
            refine tr_val (ov_len rfl rfl Try.underlying22 rfl) rfl rfl rfl ?_
            refine tr_val (ov_move rfl rfl) rfl rfl rfl ?_
            refine tr_nil (hK21 _ _ (TrC.keep [70, 69, 68, 12, 11, 44, 43, 42, 41, 7, 37, 0, 1, 2] ?_))
            show TrC _ _ _ _ [(70, _), (69, _), (68, _), (12, _), (11, _), (44, _), (43, _), (42, _), (41, _), (7, _), (37, _), (0, _), (1, _), (2, _)] _ _
            refine tr_block ?_
            refine tr_loop_ (X := Int × Int × Int × List Res × List Bool) [69, 68, 44, 43, 42, 41, 7, 37, 0, 1, 2] (fun ⟨j, b, ta, L, M⟩ => [(70, .int .i64 j), (12, .int .i64 ta), (11, .slice A2 M.length c2)]) (fun ⟨j, b, ta, L, M⟩ w' => 0 ≤ j ∧ j ≤ S.length ∧ b ≤ ta ∧ (0 ≤ ta ∧ ta ≤ 1125899906842624) ∧ Met D b [] 0 M ∧ WheelX 65 117 161 30 d ta ((arL D D.length).filter fun t => decide (b < t.due)) L ∧ SH w noBlocks [pack L, vec A2 c2 4 1 encBo M] w') (fun ⟨j, b, ta, L, M⟩ => (S.length - j).toNat) (⟨0, -1, now, L, List.replicate D.length false⟩) (Sub.cons rfl (Sub.cons rfl (Sub.cons rfl (Sub.cons rfl (Sub.cons rfl (Sub.cons rfl (Sub.cons rfl (Sub.cons rfl (Sub.cons rfl (Sub.cons rfl (Sub.cons rfl (Sub.cons rfl (Sub.cons rfl (Sub.cons rfl Sub.nil)))))))))))))) (⟨by omega, by omega, by omega, by omega, hM0, hX, H⟩) ?_
            rintro ⟨j, b, ta, L, M⟩ w8 ⟨hj0, hj1, hb, hta, hm0, hX, H⟩ K22 hK22
            show TrC _ _ _ _ [(70, _), (12, _), (11, _), (69, _), (68, _), (44, _), (43, _), (42, _), (41, _), (7, _), (37, _), (0, _), (1, _), (2, _)] _ _
            refine tr_seq (fun K23 hK23 => ?_)
            -- region 14: law.go:88
            refine tr_region ?_
            refine tr_val (ov_lss rfl rfl rfl) rfl rfl rfl ?_
            refine tr_nil (hK23 _ _ (TrC.keep [71, 70, 12, 11, 69, 68, 44, 43, 42, 41, 7, 37, 0, 1, 2] ?_))
            show TrC _ _ _ _ [(71, _), (70, _), (12, _), (11, _), (69, _), (68, _), (44, _), (43, _), (42, _), (41, _), (7, _), (37, _), (0, _), (1, _), (2, _)] _ _
            refine tr_seq (fun K24 hK24 => ?_)
            first | refine tr_cond rfl (fun c71 => ?_) (fun c71 => ?_) | refine tr_condb rfl (fun c71 => ?_) (fun c71 => ?_)
            · skip
              refine tr_skip (hK24 _ _ (TrC.keep [71, 70, 12, 11, 69, 68, 44, 43, 42, 41, 7, 37, 0, 1, 2] ?_))
              show TrC _ _ _ _ [(71, _), (70, _), (12, _), (11, _), (69, _), (68, _), (44, _), (43, _), (42, _), (41, _), (7, _), (37, _), (0, _), (1, _), (2, _)] _ _
              refine tr_seq (fun K25 hK25 => ?_)
              refine tr_block ?_
              refine tr_seq (fun K26 hK26 => ?_)
              -- region 15: law.go:88
              refine tr_region ?_
              refine tr_val (ov_indexAddrR (H.rd0 hS) rfl Try.underlying22 (Try.sizeOf2 _) rfl rfl (by omega) (by omega)) rfl rfl rfl ?_
              refine tr_val (ld_I64 (H.rd0 hS) rfl (Try.isAgg2 _) rfl (by omega) (by omega)) rfl rfl rfl ?_
              refine tr_val (ov_assign rfl rfl) rfl rfl rfl ?_
              refine tr_nil (hK26 _ _ (TrC.keep [14, 71, 70, 12, 11, 69, 68, 44, 43, 42, 41, 7, 37, 0, 1, 2] ?_))
              show TrC _ _ _ _ [(14, _), (71, _), (70, _), (12, _), (11, _), (69, _), (68, _), (44, _), (43, _), (42, _), (41, _), (7, _), (37, _), (0, _), (1, _), (2, _)] _ _
              refine tr_seq (fun K27 hK27 => ?_)
              -- region 16: law.go:89
              refine tr_region ?_
              refine tr_val (ov_move rfl rfl) rfl rfl rfl ?_
              refine tr_val (ov_move rfl rfl) rfl rfl rfl ?_
              refine tr_val (ov_move rfl rfl) rfl rfl rfl ?_
              refine tr_val (ov_sub rfl rfl rfl (w64 (by omega))) rfl rfl rfl ?_
              refine tr_val (ov_min rfl rfl rfl) rfl rfl rfl ?_
              refine tr_val (ov_max rfl rfl rfl) rfl rfl rfl ?_
              refine tr_val (ov_add rfl rfl rfl (w64 (by omega))) rfl rfl rfl ?_
              refine tr_val (ov_assign rfl rfl) rfl rfl rfl ?_
              refine tr_nil (hK27 _ _ (TrC.keep [15, 71, 70, 12, 11, 69, 68, 44, 43, 42, 41, 7, 37, 0, 1, 2] ?_))
              show TrC _ _ _ _ [(15, _), (71, _), (70, _), (12, _), (11, _), (69, _), (68, _), (44, _), (43, _), (42, _), (41, _), (7, _), (37, _), (0, _), (1, _), (2, _)] _ _
              refine tr_seq (fun K28 hK28 => ?_)
              -- region 17: law.go:90
              obtain ⟨to_, hto⟩ : ∃ x, ta + max (min (gt S j) (1125899906842624 - ta)) 0 = x := ⟨_, rfl⟩
              rw [hto]
              have ht1 : ta ≤ to_ ∧ to_ ≤ 1125899906842624 := by omega
              have he : advE ta to_ = 0 := advE_zero (by omega)
              have e1 : advF ta to_ ((arL D D.length).filter fun t => decide (b < t.due)) = (fired D b to_) := by unfold advF fired; rw [if_pos he]
              have e2 : advX ta to_ ((arL D D.length).filter fun t => decide (b < t.due)) = ((arL D D.length).filter fun t => decide (to_ < t.due)) := by unfold advX; rw [if_pos he]; exact fired_rest (by omega)
              have e3 : advN ta to_ = to_ := by unfold advN; rw [if_pos he]
              refine tr_region ?_
              refine tr_val (ov_move rfl rfl) rfl rfl rfl ?_
              refine tr_val (ov_move rfl rfl) rfl rfl rfl ?_
              refine tr_call (wAdvance_c d ta ((arL D D.length).filter fun t => decide (b < t.due)) L _ hX H.get0 to_) rfl rfl rfl Try.call16 rfl rfl rfl ?_
              rintro _ w9 ⟨A1, c1, rfl, L1, hX1, HC⟩
              have H := H.call1e HC
              rw [he, e1]
              rw [e1] at H
              rw [e2, e3] at hX1
              have hfl := fired_le (D := D) (b := b) (to_ := to_)
              refine tr_val (ov_move rfl rfl) rfl rfl rfl ?_
              refine tr_val (ov_extract rfl rfl rfl) rfl rfl rfl ?_
              refine tr_val (ov_extract rfl rfl rfl) rfl rfl rfl ?_
              refine tr_val (ov_assign rfl rfl) rfl rfl rfl ?_
              refine tr_val (ov_assign rfl rfl) rfl rfl rfl ?_
              refine tr_nil (hK28 _ _ (TrC.keep [17, 16, 15, 71, 70, 12, 11, 69, 68, 44, 43, 42, 41, 7, 37, 0, 1, 2] ?_))
              show TrC _ _ _ _ [(17, _), (16, _), (15, _), (71, _), (70, _), (12, _), (11, _), (69, _), (68, _), (44, _), (43, _), (42, _), (41, _), (7, _), (37, _), (0, _), (1, _), (2, _)] _ _
              refine tr_seq (fun K29 hK29 => ?_)
              refine tr_seq (fun K30 hK30 => ?_)
              -- region 18: law.go:91
              refine tr_region ?_
              refine tr_val (ov_move rfl rfl) rfl rfl rfl ?_
              refine tr_val (ov_neq rfl rfl rfl) rfl rfl rfl ?_
              refine tr_nil (hK30 _ _ (TrC.keep [88, 16, 15, 71, 70, 12, 11, 69, 68, 44, 43, 42, 41, 7, 37, 0, 1, 2] ?_))
              show TrC _ _ _ _ [(88, _), (16, _), (15, _), (71, _), (70, _), (12, _), (11, _), (69, _), (68, _), (44, _), (43, _), (42, _), (41, _), (7, _), (37, _), (0, _), (1, _), (2, _)] _ _
              first | refine tr_cond rfl (fun c88 => ?_) (fun c88 => ?_) | refine tr_condb rfl (fun c88 => ?_) (fun c88 => ?_)
              · first | exact absurd rfl c88 | cases c88 | exact absurd c88 (by decide)
              · skip
                refine tr_skip (hK29 _ _ (TrC.keep [88, 16, 15, 71, 70, 12, 11, 69, 68, 44, 43, 42, 41, 7, 37, 0, 1, 2] ?_))
                show TrC _ _ _ _ [(88, _), (16, _), (15, _), (71, _), (70, _), (12, _), (11, _), (69, _), (68, _), (44, _), (43, _), (42, _), (41, _), (7, _), (37, _), (0, _), (1, _), (2, _)] _ _
                refine tr_seq (fun K31 hK31 => ?_)
                refine tr_seq (fun K32 hK32 => ?_)
                -- region 20: law.go:94
                refine tr_region ?_
                refine tr_val (ov_move rfl rfl) rfl rfl rfl ?_
                refine tr_val (ov_len rfl rfl Try.underlying32 rfl) rfl rfl rfl ?_
                refine tr_val (ov_move rfl rfl) rfl rfl rfl ?_
                refine tr_nil (hK32 _ _ (TrC.keep [91, 90, 89, 88, 15, 71, 70, 12, 11, 69, 68, 44, 43, 42, 41, 7, 37, 0, 1, 2] ?_))
                show TrC _ _ _ _ [(91, _), (90, _), (89, _), (88, _), (15, _), (71, _), (70, _), (12, _), (11, _), (69, _), (68, _), (44, _), (43, _), (42, _), (41, _), (7, _), (37, _), (0, _), (1, _), (2, _)] _ _
                refine tr_block ?_
                refine tr_loop_ (X := Int × List Bool) [90, 89, 88, 15, 71, 70, 12, 69, 68, 44, 43, 42, 41, 7, 37, 0, 1, 2] (fun ⟨k, M⟩ => [(91, .int .i64 k), (11, .slice A2 M.length c2)]) (fun ⟨k, M⟩ w' => 0 ≤ k ∧ k ≤ (fired D b to_).length ∧ Met D b (fired D b to_) k M ∧ SH w noBlocks [vec A1 c1 30 3 encThing (fired D b to_), pack L1, vec A2 c2 4 1 encBo M] w') (fun ⟨k, M⟩ => ((fired D b to_).length - k).toNat) (⟨0, M⟩) (Sub.cons rfl (Sub.cons rfl (Sub.cons rfl (Sub.cons rfl (Sub.cons rfl (Sub.cons rfl (Sub.cons rfl (Sub.cons rfl (Sub.cons rfl (Sub.cons rfl (Sub.cons rfl (Sub.cons rfl (Sub.cons rfl (Sub.cons rfl (Sub.cons rfl (Sub.cons rfl (Sub.cons rfl (Sub.cons rfl (Sub.cons rfl (Sub.cons rfl Sub.nil)))))))))))))))))))) (⟨by omega, by omega, hm0.any, H⟩) ?_
                rintro ⟨k, M⟩ w10 ⟨hk0, hk1, hm, H⟩ K33 hK33
                show TrC _ _ _ _ [(91, _), (11, _), (90, _), (89, _), (88, _), (15, _), (71, _), (70, _), (12, _), (69, _), (68, _), (44, _), (43, _), (42, _), (41, _), (7, _), (37, _), (0, _), (1, _), (2, _)] _ _
                refine tr_seq (fun K34 hK34 => ?_)
                -- region 21: law.go:94
                refine tr_region ?_
                refine tr_val (ov_lss rfl rfl rfl) rfl rfl rfl ?_
                refine tr_nil (hK34 _ _ (TrC.keep [92, 91, 11, 90, 89, 88, 15, 71, 70, 12, 69, 68, 44, 43, 42, 41, 7, 37, 0, 1, 2] ?_))
                show TrC _ _ _ _ [(92, _), (91, _), (11, _), (90, _), (89, _), (88, _), (15, _), (71, _), (70, _), (12, _), (69, _), (68, _), (44, _), (43, _), (42, _), (41, _), (7, _), (37, _), (0, _), (1, _), (2, _)] _ _
                refine tr_seq (fun K35 hK35 => ?_)
                first | refine tr_cond rfl (fun c92 => ?_) (fun c92 => ?_) | refine tr_condb rfl (fun c92 => ?_) (fun c92 => ?_)
                · skip
                  refine tr_skip (hK35 _ _ (TrC.keep [92, 91, 11, 90, 89, 88, 15, 71, 70, 12, 69, 68, 44, 43, 42, 41, 7, 37, 0, 1, 2] ?_))
                  show TrC _ _ _ _ [(92, _), (91, _), (11, _), (90, _), (89, _), (88, _), (15, _), (71, _), (70, _), (12, _), (69, _), (68, _), (44, _), (43, _), (42, _), (41, _), (7, _), (37, _), (0, _), (1, _), (2, _)] _ _
                  refine tr_seq (fun K36 hK36 => ?_)
                  refine tr_block ?_
                  refine tr_seq (fun K37 hK37 => ?_)
                  -- region 22: law.go:94
                  refine tr_region ?_
                  refine tr_val (ov_indexAddrR (vec_rd H.get0 lenThing (by decide)) rfl Try.underlying32 (Try.sizeOf30 _) rfl rfl (by omega) (by omega)) rfl rfl rfl ?_
                  refine tr_val (ld_Thing (vec_rd H.get0 lenThing (by decide)) rfl (Try.isAgg30 _) (Try.sizeOf30 _) rfl (by omega) (by omega)) rfl rfl rfl ?_
                  refine tr_alloc H rfl (Try.zeroValue30 _) rfl rfl rfl rfl ?_
                  intro b1 w11 hb1 H
                  first | (refine tr_storeW H.get0 rfl (Try.sizeOf30 _) rfl rfl rfl rfl rfl rfl rfl rfl ?_; intro w12 U; have H := H.upd0 U; clear U) | (refine tr_storeW H.get1 rfl (Try.sizeOf30 _) rfl rfl rfl rfl rfl rfl rfl rfl ?_; intro w12 U; have H := H.upd1 U; clear U) | (refine tr_storeW H.get2 rfl (Try.sizeOf30 _) rfl rfl rfl rfl rfl rfl rfl rfl ?_; intro w12 U; have H := H.upd2 U; clear U) | (refine tr_storeW H.get3 rfl (Try.sizeOf30 _) rfl rfl rfl rfl rfl rfl rfl rfl ?_; intro w12 U; have H := H.upd3 U; clear U) | (refine tr_storeW H.get4 rfl (Try.sizeOf30 _) rfl rfl rfl rfl rfl rfl rfl rfl ?_; intro w12 U; have H := H.upd4 U; clear U) | (refine tr_storeW H.get5 rfl (Try.sizeOf30 _) rfl rfl rfl rfl rfl rfl rfl rfl ?_; intro w12 U; have H := H.upd5 U; clear U) | (refine tr_storeW H.get6 rfl (Try.sizeOf30 _) rfl rfl rfl rfl rfl rfl rfl rfl ?_; intro w12 U; have H := H.upd6 U; clear U) | (refine tr_storeW H.get7 rfl (Try.sizeOf30 _) rfl rfl rfl rfl rfl rfl rfl rfl ?_; intro w12 U; have H := H.upd7 U; clear U) | (refine tr_storeW H.get8 rfl (Try.sizeOf30 _) rfl rfl rfl rfl rfl rfl rfl rfl ?_; intro w12 U; have H := H.upd8 U; clear U)
                  refine tr_nil (hK37 _ _ (TrC.keep [19, 92, 91, 11, 90, 89, 88, 15, 71, 70, 12, 69, 68, 44, 43, 42, 41, 7, 37, 0, 1, 2] ?_))
                  show TrC _ _ _ _ [(19, _), (92, _), (91, _), (11, _), (90, _), (89, _), (88, _), (15, _), (71, _), (70, _), (12, _), (69, _), (68, _), (44, _), (43, _), (42, _), (41, _), (7, _), (37, _), (0, _), (1, _), (2, _)] _ _
                  refine tr_seq (fun K38 hK38 => ?_)
                  refine tr_seq (fun K39 hK39 => ?_)
                  -- region 23: law.go:95
                  obtain ⟨q0, q1, q2, q3, q4⟩ := fired_at hm hk0 (by omega)
                  have hml := hm.1
                  refine tr_quiet mixed (by kernel_rfl) H ?_
                  refine tq_val (fun _ H => ov_fieldAddr rfl Try.underlying30 rfl (Try.sizeOf28 _) (by decide) rfl) rfl rfl rfl ?_
                  first | refine tq_val (fun _ H => ov_load_blk H.get0 rfl (Try.isAgg28 _) rfl rfl rfl) rfl rfl rfl ?_ | refine tq_val (fun _ H => ov_load_blk H.get1 rfl (Try.isAgg28 _) rfl rfl rfl) rfl rfl rfl ?_ | refine tq_val (fun _ H => ov_load_blk H.get2 rfl (Try.isAgg28 _) rfl rfl rfl) rfl rfl rfl ?_ | refine tq_val (fun _ H => ov_load_blk H.get3 rfl (Try.isAgg28 _) rfl rfl rfl) rfl rfl rfl ?_ | refine tq_val (fun _ H => ov_load_blk H.get4 rfl (Try.isAgg28 _) rfl rfl rfl) rfl rfl rfl ?_ | refine tq_val (fun _ H => ov_load_blk H.get5 rfl (Try.isAgg28 _) rfl rfl rfl) rfl rfl rfl ?_ | refine tq_val (fun _ H => ov_load_blk H.get6 rfl (Try.isAgg28 _) rfl rfl rfl) rfl rfl rfl ?_ | refine tq_val (fun _ H => ov_load_blk H.get7 rfl (Try.isAgg28 _) rfl rfl rfl) rfl rfl rfl ?_ | refine tq_val (fun _ H => ov_load_blk H.get8 rfl (Try.isAgg28 _) rfl rfl rfl) rfl rfl rfl ?_
                  refine tq_val (fun _ H => ov_move rfl rfl) rfl rfl rfl ?_
                  refine tq_val (fun _ H => ov_len rfl rfl Try.underlying22 rfl) rfl rfl rfl ?_
                  refine tq_val (fun _ H => ov_conv rfl Try.underlying3 Try.underlying28 rfl (wu64 (by omega))) rfl rfl rfl ?_
                  refine tq_val (fun _ H => ov_geq rfl rfl rfl) rfl rfl rfl ?_
                  refine tq_val (fun _ H => ov_move rfl rfl) rfl rfl rfl ?_
                  first | refine tq_split (t := 101) rfl (fun s101 => ?_) (fun s101 => ?_) | refine tq_splitb (t := 101) rfl (fun s101 => ?_) (fun s101 => ?_)
                  · exfalso; omega
                  · skip
                    refine tq_val (fun _ H => ov_move rfl rfl) rfl rfl rfl ?_
                    refine tq_val (fun _ H => ov_fieldAddr rfl Try.underlying30 rfl (Try.sizeOf28 _) (by decide) rfl) rfl rfl rfl ?_
                    first | refine tq_val (fun _ H => ov_load_blk H.get0 rfl (Try.isAgg28 _) rfl rfl rfl) rfl rfl rfl ?_ | refine tq_val (fun _ H => ov_load_blk H.get1 rfl (Try.isAgg28 _) rfl rfl rfl) rfl rfl rfl ?_ | refine tq_val (fun _ H => ov_load_blk H.get2 rfl (Try.isAgg28 _) rfl rfl rfl) rfl rfl rfl ?_ | refine tq_val (fun _ H => ov_load_blk H.get3 rfl (Try.isAgg28 _) rfl rfl rfl) rfl rfl rfl ?_ | refine tq_val (fun _ H => ov_load_blk H.get4 rfl (Try.isAgg28 _) rfl rfl rfl) rfl rfl rfl ?_ | refine tq_val (fun _ H => ov_load_blk H.get5 rfl (Try.isAgg28 _) rfl rfl rfl) rfl rfl rfl ?_ | refine tq_val (fun _ H => ov_load_blk H.get6 rfl (Try.isAgg28 _) rfl rfl rfl) rfl rfl rfl ?_ | refine tq_val (fun _ H => ov_load_blk H.get7 rfl (Try.isAgg28 _) rfl rfl rfl) rfl rfl rfl ?_ | refine tq_val (fun _ H => ov_load_blk H.get8 rfl (Try.isAgg28 _) rfl rfl rfl) rfl rfl rfl ?_
                    refine tq_val (fun _ H => ov_indexAddrR (by first | exact vec_rd H.get1 lenBo (by decide) | exact vec_rd H.get2 lenBo (by decide) | exact vec_rd H.get3 lenBo (by decide)) rfl Try.underlying31 (Try.sizeOf4 _) rfl rfl (by omega) (by omega)) rfl rfl rfl ?_
                    refine tq_val (fun _ H => ld_Bo (by first | exact vec_rd H.get1 lenBo (by decide) | exact vec_rd H.get2 lenBo (by decide) | exact vec_rd H.get3 lenBo (by decide)) rfl (Try.isAgg4 _) rfl (by omega) (by omega)) rfl rfl rfl ?_
                    refine tq_val (fun _ H => ov_pick_f (va := undef) rfl rfl rfl rfl) rfl rfl rfl ?_
                    refine tq_val (fun _ H => ov_move rfl rfl) rfl rfl rfl ?_
                    first | refine tq_split (t := 108) rfl (fun s108 => ?_) (fun s108 => ?_) | refine tq_splitb (t := 108) rfl (fun s108 => ?_) (fun s108 => ?_)
                    · exact absurd (s108.symm.trans q4) (by decide)
                    · skip
                      refine tq_val (fun _ H => ov_fieldAddr rfl Try.underlying30 rfl (Try.sizeOf2 _) (by decide) rfl) rfl rfl rfl ?_
                      first | refine tq_val (fun _ H => ov_load_blk H.get0 rfl (Try.isAgg2 _) rfl rfl rfl) rfl rfl rfl ?_ | refine tq_val (fun _ H => ov_load_blk H.get1 rfl (Try.isAgg2 _) rfl rfl rfl) rfl rfl rfl ?_ | refine tq_val (fun _ H => ov_load_blk H.get2 rfl (Try.isAgg2 _) rfl rfl rfl) rfl rfl rfl ?_ | refine tq_val (fun _ H => ov_load_blk H.get3 rfl (Try.isAgg2 _) rfl rfl rfl) rfl rfl rfl ?_ | refine tq_val (fun _ H => ov_load_blk H.get4 rfl (Try.isAgg2 _) rfl rfl rfl) rfl rfl rfl ?_ | refine tq_val (fun _ H => ov_load_blk H.get5 rfl (Try.isAgg2 _) rfl rfl rfl) rfl rfl rfl ?_ | refine tq_val (fun _ H => ov_load_blk H.get6 rfl (Try.isAgg2 _) rfl rfl rfl) rfl rfl rfl ?_ | refine tq_val (fun _ H => ov_load_blk H.get7 rfl (Try.isAgg2 _) rfl rfl rfl) rfl rfl rfl ?_ | refine tq_val (fun _ H => ov_load_blk H.get8 rfl (Try.isAgg2 _) rfl rfl rfl) rfl rfl rfl ?_
                      refine tq_val (fun _ H => ov_move rfl rfl) rfl rfl rfl ?_
                      refine tq_val (fun _ H => ov_fieldAddr rfl Try.underlying30 rfl (Try.sizeOf28 _) (by decide) rfl) rfl rfl rfl ?_
                      first | refine tq_val (fun _ H => ov_load_blk H.get0 rfl (Try.isAgg28 _) rfl rfl rfl) rfl rfl rfl ?_ | refine tq_val (fun _ H => ov_load_blk H.get1 rfl (Try.isAgg28 _) rfl rfl rfl) rfl rfl rfl ?_ | refine tq_val (fun _ H => ov_load_blk H.get2 rfl (Try.isAgg28 _) rfl rfl rfl) rfl rfl rfl ?_ | refine tq_val (fun _ H => ov_load_blk H.get3 rfl (Try.isAgg28 _) rfl rfl rfl) rfl rfl rfl ?_ | refine tq_val (fun _ H => ov_load_blk H.get4 rfl (Try.isAgg28 _) rfl rfl rfl) rfl rfl rfl ?_ | refine tq_val (fun _ H => ov_load_blk H.get5 rfl (Try.isAgg28 _) rfl rfl rfl) rfl rfl rfl ?_ | refine tq_val (fun _ H => ov_load_blk H.get6 rfl (Try.isAgg28 _) rfl rfl rfl) rfl rfl rfl ?_ | refine tq_val (fun _ H => ov_load_blk H.get7 rfl (Try.isAgg28 _) rfl rfl rfl) rfl rfl rfl ?_ | refine tq_val (fun _ H => ov_load_blk H.get8 rfl (Try.isAgg28 _) rfl rfl rfl) rfl rfl rfl ?_
                      refine tq_val (fun _ H => ov_indexAddrR (H.rd0 hR) rfl Try.underlying22 (Try.sizeOf2 _) rfl rfl (by omega) (by omega)) rfl rfl rfl ?_
                      refine tq_val (fun _ H => ld_I64 (H.rd0 hR) rfl (Try.isAgg2 _) rfl (by omega) (by omega)) rfl rfl rfl ?_
                      refine tq_val (fun _ H => ov_neq rfl rfl rfl) rfl rfl rfl ?_
                      refine tq_val (fun _ H => ov_pick_f (va := undef) rfl rfl rfl rfl) rfl rfl rfl ?_
                      refine tq_val (fun _ H => ov_move rfl rfl) rfl rfl rfl ?_
                      first | refine tq_split (t := 118) rfl (fun s118 => ?_) (fun s118 => ?_) | refine tq_splitb (t := 118) rfl (fun s118 => ?_) (fun s118 => ?_)
                      · exfalso; omega
                      · skip
                        refine tq_val (fun _ H => ov_fieldAddr rfl Try.underlying30 rfl (Try.sizeOf2 _) (by decide) rfl) rfl rfl rfl ?_
                        first | refine tq_val (fun _ H => ov_load_blk H.get0 rfl (Try.isAgg2 _) rfl rfl rfl) rfl rfl rfl ?_ | refine tq_val (fun _ H => ov_load_blk H.get1 rfl (Try.isAgg2 _) rfl rfl rfl) rfl rfl rfl ?_ | refine tq_val (fun _ H => ov_load_blk H.get2 rfl (Try.isAgg2 _) rfl rfl rfl) rfl rfl rfl ?_ | refine tq_val (fun _ H => ov_load_blk H.get3 rfl (Try.isAgg2 _) rfl rfl rfl) rfl rfl rfl ?_ | refine tq_val (fun _ H => ov_load_blk H.get4 rfl (Try.isAgg2 _) rfl rfl rfl) rfl rfl rfl ?_ | refine tq_val (fun _ H => ov_load_blk H.get5 rfl (Try.isAgg2 _) rfl rfl rfl) rfl rfl rfl ?_ | refine tq_val (fun _ H => ov_load_blk H.get6 rfl (Try.isAgg2 _) rfl rfl rfl) rfl rfl rfl ?_ | refine tq_val (fun _ H => ov_load_blk H.get7 rfl (Try.isAgg2 _) rfl rfl rfl) rfl rfl rfl ?_ | refine tq_val (fun _ H => ov_load_blk H.get8 rfl (Try.isAgg2 _) rfl rfl rfl) rfl rfl rfl ?_
                        refine tq_val (fun _ H => ov_move rfl rfl) rfl rfl rfl ?_
                        refine tq_val (fun _ H => ov_gtr rfl rfl rfl) rfl rfl rfl ?_
                        refine tq_val (fun _ H => ov_pick_f (va := undef) rfl rfl rfl rfl) rfl rfl rfl ?_
                        refine tq_nil ?_
                        intro w13 H
                        refine hK39 _ _ (TrC.keep [123, 19, 92, 91, 11, 90, 89, 88, 15, 71, 70, 12, 69, 68, 44, 43, 42, 41, 7, 37, 0, 1, 2] ?_)
                        show TrC _ _ _ _ [(123, _), (19, _), (92, _), (91, _), (11, _), (90, _), (89, _), (88, _), (15, _), (71, _), (70, _), (12, _), (69, _), (68, _), (44, _), (43, _), (42, _), (41, _), (7, _), (37, _), (0, _), (1, _), (2, _)] _ _
                        first | refine tr_cond rfl (fun c123 => ?_) (fun c123 => ?_) | refine tr_condb rfl (fun c123 => ?_) (fun c123 => ?_)
                        · exfalso; omega
                        · skip
                          refine tr_skip (hK38 _ _ (TrC.keep [123, 19, 92, 91, 11, 90, 89, 88, 15, 71, 70, 12, 69, 68, 44, 43, 42, 41, 7, 37, 0, 1, 2] ?_))
                          show TrC _ _ _ _ [(123, _), (19, _), (92, _), (91, _), (11, _), (90, _), (89, _), (88, _), (15, _), (71, _), (70, _), (12, _), (69, _), (68, _), (44, _), (43, _), (42, _), (41, _), (7, _), (37, _), (0, _), (1, _), (2, _)] _ _
                          -- region 25: law.go:98
                          refine tr_region ?_
                          refine tr_val (ov_move rfl rfl) rfl rfl rfl ?_
                          refine tr_val (ov_fieldAddr rfl Try.underlying30 rfl (Try.sizeOf28 _) (by decide) rfl) rfl rfl rfl ?_
                          first | refine tr_val (ov_load_blk H.get0 rfl (Try.isAgg28 _) rfl rfl rfl) rfl rfl rfl ?_ | refine tr_val (ov_load_blk H.get1 rfl (Try.isAgg28 _) rfl rfl rfl) rfl rfl rfl ?_ | refine tr_val (ov_load_blk H.get2 rfl (Try.isAgg28 _) rfl rfl rfl) rfl rfl rfl ?_ | refine tr_val (ov_load_blk H.get3 rfl (Try.isAgg28 _) rfl rfl rfl) rfl rfl rfl ?_ | refine tr_val (ov_load_blk H.get4 rfl (Try.isAgg28 _) rfl rfl rfl) rfl rfl rfl ?_ | refine tr_val (ov_load_blk H.get5 rfl (Try.isAgg28 _) rfl rfl rfl) rfl rfl rfl ?_ | refine tr_val (ov_load_blk H.get6 rfl (Try.isAgg28 _) rfl rfl rfl) rfl rfl rfl ?_ | refine tr_val (ov_load_blk H.get7 rfl (Try.isAgg28 _) rfl rfl rfl) rfl rfl rfl ?_ | refine tr_val (ov_load_blk H.get8 rfl (Try.isAgg28 _) rfl rfl rfl) rfl rfl rfl ?_
                          refine tr_val (ov_indexAddrR (by first | exact vec_rd H.get1 lenBo (by decide) | exact vec_rd H.get2 lenBo (by decide) | exact vec_rd H.get3 lenBo (by decide)) rfl Try.underlying31 (Try.sizeOf4 _) rfl rfl (by omega) (by omega)) rfl rfl rfl ?_
                          refine tr_store_vec (i := (gt (fired D b to_) k).id) (k := 0) true [.bool true] H.get3 lenBo rfl rfl rfl rfl (by omega) (by omega) (Try.sizeOf4 _) (Nat.le_refl _) (List.cons_ne_nil _ _) rfl rfl rfl rfl rfl ?_
                          intro w9 U; have H := H.upd3 U; clear U
                          refine tr_nil (hK36 _ _ (TrC.keep [123, 19, 92, 91, 11, 90, 89, 88, 15, 71, 70, 12, 69, 68, 44, 43, 42, 41, 7, 37, 0, 1, 2] ?_))
                          show TrC _ _ _ _ [(123, _), (19, _), (92, _), (91, _), (11, _), (90, _), (89, _), (88, _), (15, _), (71, _), (70, _), (12, _), (69, _), (68, _), (44, _), (43, _), (42, _), (41, _), (7, _), (37, _), (0, _), (1, _), (2, _)] _ _
                          -- region 26: law.go:94
                          refine tr_region ?_
                          refine tr_val (ov_add rfl rfl rfl (w64 (by omega))) rfl rfl rfl ?_
                          refine tr_val (ov_move rfl rfl) rfl rfl rfl ?_
                          skip
                          exact tr_nil (hK33 (⟨k + 1, (M.set (gt (fired D b to_) k).id.toNat true)⟩) _ _ (⟨by omega, by omega, hm.step hk0 (by omega), H.drop0⟩) (by first | omega | (dsimp only; omega)) (Sub.cons rfl (Sub.consE rfl (by simp) (Sub.cons rfl (Sub.cons rfl (Sub.cons rfl (Sub.cons rfl (Sub.cons rfl (Sub.cons rfl (Sub.cons rfl (Sub.cons rfl (Sub.cons rfl (Sub.cons rfl (Sub.cons rfl (Sub.cons rfl (Sub.cons rfl (Sub.cons rfl (Sub.cons rfl (Sub.cons rfl (Sub.cons rfl (Sub.cons rfl Sub.nil)))))))))))))))))))))
                · skip
                  refine tr_exit (hK31 _ _ (TrC.keep [92, 91, 11, 90, 89, 88, 15, 71, 70, 12, 69, 68, 44, 43, 42, 41, 7, 37, 0, 1, 2] ?_))
                  show TrC _ _ _ _ [(92, _), (91, _), (11, _), (90, _), (89, _), (88, _), (15, _), (71, _), (70, _), (12, _), (69, _), (68, _), (44, _), (43, _), (42, _), (41, _), (7, _), (37, _), (0, _), (1, _), (2, _)] _ _
                  refine tr_seq (fun K40 hK40 => ?_)
                  -- region 27: law.go:100
                  have hms := hm.stop (by omega) (by omega)
                  have hml := hm.1
                  refine tr_region ?_
                  refine tr_val (ov_move rfl rfl) rfl rfl rfl ?_
                  refine tr_val (ov_assign rfl rfl) rfl rfl rfl ?_
                  refine tr_nil (hK40 _ _ (TrC.keep [12, 92, 91, 11, 90, 89, 88, 15, 71, 70, 69, 68, 44, 43, 42, 41, 7, 37, 0, 1, 2] ?_))
                  show TrC _ _ _ _ [(12, _), (92, _), (91, _), (11, _), (90, _), (89, _), (88, _), (15, _), (71, _), (70, _), (69, _), (68, _), (44, _), (43, _), (42, _), (41, _), (7, _), (37, _), (0, _), (1, _), (2, _)] _ _
                  refine tr_seq (fun K41 hK41 => ?_)
                  -- region 28: law.go:101
                  refine tr_region ?_
                  refine tr_val (ov_move rfl rfl) rfl rfl rfl ?_
                  refine tr_val (ov_len rfl rfl Try.underlying22 rfl) rfl rfl rfl ?_
                  refine tr_val (ov_move rfl rfl) rfl rfl rfl ?_
                  refine tr_nil (hK41 _ _ (TrC.keep [132, 131, 130, 12, 92, 91, 11, 90, 89, 88, 15, 71, 70, 69, 68, 44, 43, 42, 41, 7, 37, 0, 1, 2] ?_))
                  show TrC _ _ _ _ [(132, _), (131, _), (130, _), (12, _), (92, _), (91, _), (11, _), (90, _), (89, _), (88, _), (15, _), (71, _), (70, _), (69, _), (68, _), (44, _), (43, _), (42, _), (41, _), (7, _), (37, _), (0, _), (1, _), (2, _)] _ _
                  refine tr_block ?_
                  refine tr_loop_ (X := Int) [131, 130, 12, 92, 91, 11, 90, 89, 88, 15, 71, 70, 69, 68, 44, 43, 42, 41, 7, 37, 0, 1, 2] (fun i => [(132, .int .i64 i)]) (fun i w' => 0 ≤ i ∧ i ≤ D.length ∧ SH w noBlocks [vec A1 c1 30 3 encThing (fired D b to_), pack L1, vec A2 c2 4 1 encBo M] w') (fun i => (D.length - i).toNat) (0) (Sub.cons rfl (Sub.cons rfl (Sub.cons rfl (Sub.cons rfl (Sub.cons rfl (Sub.cons rfl (Sub.cons rfl (Sub.cons rfl (Sub.cons rfl (Sub.cons rfl (Sub.cons rfl (Sub.cons rfl (Sub.cons rfl (Sub.cons rfl (Sub.cons rfl (Sub.cons rfl (Sub.cons rfl (Sub.cons rfl (Sub.cons rfl (Sub.cons rfl (Sub.cons rfl (Sub.cons rfl (Sub.cons rfl (Sub.cons rfl Sub.nil)))))))))))))))))))))))) (⟨by omega, by omega, H⟩) ?_
                  rintro i w14 ⟨hi0, hi1, H⟩ K42 hK42
                  show TrC _ _ _ _ [(132, _), (131, _), (130, _), (12, _), (92, _), (91, _), (11, _), (90, _), (89, _), (88, _), (15, _), (71, _), (70, _), (69, _), (68, _), (44, _), (43, _), (42, _), (41, _), (7, _), (37, _), (0, _), (1, _), (2, _)] _ _
                  refine tr_seq (fun K43 hK43 => ?_)
                  -- region 29: law.go:101
                  refine tr_region ?_
                  refine tr_val (ov_lss rfl rfl rfl) rfl rfl rfl ?_
                  refine tr_nil (hK43 _ _ (TrC.keep [133, 132, 131, 130, 12, 92, 91, 11, 90, 89, 88, 15, 71, 70, 69, 68, 44, 43, 42, 41, 7, 37, 0, 1, 2] ?_))
                  show TrC _ _ _ _ [(133, _), (132, _), (131, _), (130, _), (12, _), (92, _), (91, _), (11, _), (90, _), (89, _), (88, _), (15, _), (71, _), (70, _), (69, _), (68, _), (44, _), (43, _), (42, _), (41, _), (7, _), (37, _), (0, _), (1, _), (2, _)] _ _
                  refine tr_seq (fun K44 hK44 => ?_)
                  first | refine tr_cond rfl (fun c133 => ?_) (fun c133 => ?_) | refine tr_condb rfl (fun c133 => ?_) (fun c133 => ?_)
                  · skip
                    refine tr_skip (hK44 _ _ (TrC.keep [133, 132, 131, 130, 12, 92, 91, 11, 90, 89, 88, 15, 71, 70, 69, 68, 44, 43, 42, 41, 7, 37, 0, 1, 2] ?_))
                    show TrC _ _ _ _ [(133, _), (132, _), (131, _), (130, _), (12, _), (92, _), (91, _), (11, _), (90, _), (89, _), (88, _), (15, _), (71, _), (70, _), (69, _), (68, _), (44, _), (43, _), (42, _), (41, _), (7, _), (37, _), (0, _), (1, _), (2, _)] _ _
                    refine tr_seq (fun K45 hK45 => ?_)
                    refine tr_block ?_
                    refine tr_seq (fun K46 hK46 => ?_)
                    -- region 30: law.go:101
                    refine tr_region ?_
                    refine tr_val (ov_move rfl rfl) rfl rfl rfl ?_
                    refine tr_val (ov_indexAddrR (H.rd0 hR) rfl Try.underlying22 (Try.sizeOf2 _) rfl rfl (by omega) (by omega)) rfl rfl rfl ?_
                    refine tr_val (ld_I64 (H.rd0 hR) rfl (Try.isAgg2 _) rfl (by omega) (by omega)) rfl rfl rfl ?_
                    refine tr_val (ov_assign rfl rfl) rfl rfl rfl ?_
                    refine tr_val (ov_assign rfl rfl) rfl rfl rfl ?_
                    refine tr_nil (hK46 _ _ (TrC.keep [21, 20, 133, 132, 131, 130, 12, 92, 91, 11, 90, 89, 88, 15, 71, 70, 69, 68, 44, 43, 42, 41, 7, 37, 0, 1, 2] ?_))
                    show TrC _ _ _ _ [(21, _), (20, _), (133, _), (132, _), (131, _), (130, _), (12, _), (92, _), (91, _), (11, _), (90, _), (89, _), (88, _), (15, _), (71, _), (70, _), (69, _), (68, _), (44, _), (43, _), (42, _), (41, _), (7, _), (37, _), (0, _), (1, _), (2, _)] _ _
                    refine tr_seq (fun K47 hK47 => ?_)
                    -- region 31: law.go:102
                    refine tr_region ?_
                    refine tr_val (ov_move rfl rfl) rfl rfl rfl ?_
                    refine tr_val (ov_geq rfl rfl rfl) rfl rfl rfl ?_
                    refine tr_val (ov_move rfl rfl) rfl rfl rfl ?_
                    first | refine tr_split (t := 139) rfl (fun s139 => ?_) (fun s139 => ?_) | refine tr_splitb (t := 139) rfl (fun s139 => ?_) (fun s139 => ?_)
                    · skip
                      refine tr_val (ov_move rfl rfl) rfl rfl rfl ?_
                      refine tr_val (ov_leq rfl rfl rfl) rfl rfl rfl ?_
                      refine tr_val (ov_pick (vb := undef) rfl rfl rfl rfl) rfl rfl rfl ?_
                      refine tr_val (ov_move rfl rfl) rfl rfl rfl ?_
                      first | refine tr_split (t := 143) rfl (fun s143 => ?_) (fun s143 => ?_) | refine tr_splitb (t := 143) rfl (fun s143 => ?_) (fun s143 => ?_)
                      · skip
                        refine tr_val (ov_move rfl rfl) rfl rfl rfl ?_
                        refine tr_val (ov_move rfl rfl) rfl rfl rfl ?_
                        refine tr_val (ov_indexAddrR (by first | exact vec_rd H.get1 lenBo (by decide) | exact vec_rd H.get2 lenBo (by decide) | exact vec_rd H.get3 lenBo (by decide)) rfl Try.underlying31 (Try.sizeOf4 _) rfl rfl (by omega) (by omega)) rfl rfl rfl ?_
                        refine tr_val (ld_Bo (by first | exact vec_rd H.get1 lenBo (by decide) | exact vec_rd H.get2 lenBo (by decide) | exact vec_rd H.get3 lenBo (by decide)) rfl (Try.isAgg4 _) rfl (by omega) (by omega)) rfl rfl rfl ?_
                        refine tr_val (ov_move rfl rfl) rfl rfl rfl ?_
                        refine tr_val (ov_move rfl rfl) rfl rfl rfl ?_
                        refine tr_val (ov_leq rfl rfl rfl) rfl rfl rfl ?_
                        refine tr_val (ov_neqb rfl Try.underlying4 rfl rfl) rfl rfl rfl ?_
                        refine tr_val (ov_pick (vb := undef) rfl rfl rfl rfl) rfl rfl rfl ?_
                        refine tr_nil (hK47 _ _ (TrC.keep [152, 133, 132, 131, 130, 12, 92, 91, 11, 90, 89, 88, 15, 71, 70, 69, 68, 44, 43, 42, 41, 7, 37, 0, 1, 2] ?_))
                        show TrC _ _ _ _ [(152, _), (133, _), (132, _), (131, _), (130, _), (12, _), (92, _), (91, _), (11, _), (90, _), (89, _), (88, _), (15, _), (71, _), (70, _), (69, _), (68, _), (44, _), (43, _), (42, _), (41, _), (7, _), (37, _), (0, _), (1, _), (2, _)] _ _
                        first | refine tr_cond rfl (fun c152 => ?_) (fun c152 => ?_) | refine tr_condb rfl (fun c152 => ?_) (fun c152 => ?_)
                        · exact absurd c152 (by rw [hms.tells hi0 (by omega) (by omega) (by omega)]; simp)
                        · skip
                          refine tr_skip (hK45 _ _ (TrC.keep [152, 133, 132, 131, 130, 12, 92, 91, 11, 90, 89, 88, 15, 71, 70, 69, 68, 44, 43, 42, 41, 7, 37, 0, 1, 2] ?_))
                          show TrC _ _ _ _ [(152, _), (133, _), (132, _), (131, _), (130, _), (12, _), (92, _), (91, _), (11, _), (90, _), (89, _), (88, _), (15, _), (71, _), (70, _), (69, _), (68, _), (44, _), (43, _), (42, _), (41, _), (7, _), (37, _), (0, _), (1, _), (2, _)] _ _
                          -- region 33: law.go:101
                          refine tr_region ?_
                          refine tr_val (ov_add rfl rfl rfl (w64 (by omega))) rfl rfl rfl ?_
                          refine tr_val (ov_move rfl rfl) rfl rfl rfl ?_
                          skip
                          exact tr_nil (hK42 (i + 1) _ _ (⟨by omega, by omega, H⟩) (by first | omega | (dsimp only; omega)) (Sub.cons rfl (Sub.cons rfl (Sub.cons rfl (Sub.cons rfl (Sub.cons rfl (Sub.cons rfl (Sub.cons rfl (Sub.cons rfl (Sub.cons rfl (Sub.cons rfl (Sub.cons rfl (Sub.cons rfl (Sub.cons rfl (Sub.cons rfl (Sub.cons rfl (Sub.cons rfl (Sub.cons rfl (Sub.cons rfl (Sub.cons rfl (Sub.cons rfl (Sub.cons rfl (Sub.cons rfl (Sub.cons rfl (Sub.cons rfl Sub.nil)))))))))))))))))))))))))
                      · skip
                        refine tr_pass rfl rfl rfl ?_
                        refine tr_pass rfl rfl rfl ?_
                        refine tr_pass rfl rfl rfl ?_
                        refine tr_pass rfl rfl rfl ?_
                        refine tr_pass rfl rfl rfl ?_
                        refine tr_pass rfl rfl rfl ?_
                        refine tr_pass rfl rfl rfl ?_
                        refine tr_pass rfl rfl rfl ?_
                        refine tr_val (ov_pick_f (va := undef) rfl rfl rfl rfl) rfl rfl rfl ?_
                        refine tr_nil (hK47 _ _ (TrC.keep [152, 133, 132, 131, 130, 12, 92, 91, 11, 90, 89, 88, 15, 71, 70, 69, 68, 44, 43, 42, 41, 7, 37, 0, 1, 2] ?_))
                        show TrC _ _ _ _ [(152, _), (133, _), (132, _), (131, _), (130, _), (12, _), (92, _), (91, _), (11, _), (90, _), (89, _), (88, _), (15, _), (71, _), (70, _), (69, _), (68, _), (44, _), (43, _), (42, _), (41, _), (7, _), (37, _), (0, _), (1, _), (2, _)] _ _
                        refine tr_cond_f rfl rfl ?_
                        refine tr_skip (hK45 _ _ (TrC.keep [152, 133, 132, 131, 130, 12, 92, 91, 11, 90, 89, 88, 15, 71, 70, 69, 68, 44, 43, 42, 41, 7, 37, 0, 1, 2] ?_))
                        show TrC _ _ _ _ [(152, _), (133, _), (132, _), (131, _), (130, _), (12, _), (92, _), (91, _), (11, _), (90, _), (89, _), (88, _), (15, _), (71, _), (70, _), (69, _), (68, _), (44, _), (43, _), (42, _), (41, _), (7, _), (37, _), (0, _), (1, _), (2, _)] _ _
                        -- region 33: law.go:101
                        refine tr_region ?_
                        refine tr_val (ov_add rfl rfl rfl (w64 (by omega))) rfl rfl rfl ?_
                        refine tr_val (ov_move rfl rfl) rfl rfl rfl ?_
                        skip
                        exact tr_nil (hK42 (i + 1) _ _ (⟨by omega, by omega, H⟩) (by first | omega | (dsimp only; omega)) (Sub.cons rfl (Sub.cons rfl (Sub.cons rfl (Sub.cons rfl (Sub.cons rfl (Sub.cons rfl (Sub.cons rfl (Sub.cons rfl (Sub.cons rfl (Sub.cons rfl (Sub.cons rfl (Sub.cons rfl (Sub.cons rfl (Sub.cons rfl (Sub.cons rfl (Sub.cons rfl (Sub.cons rfl (Sub.cons rfl (Sub.cons rfl (Sub.cons rfl (Sub.cons rfl (Sub.cons rfl (Sub.cons rfl (Sub.cons rfl Sub.nil)))))))))))))))))))))))))
                    · skip
                      refine tr_pass rfl rfl rfl ?_
                      refine tr_pass rfl rfl rfl ?_
                      refine tr_val (ov_pick_f (va := undef) rfl rfl rfl rfl) rfl rfl rfl ?_
                      refine tr_val (ov_move rfl rfl) rfl rfl rfl ?_
                      refine tr_pass rfl rfl rfl ?_
                      refine tr_pass rfl rfl rfl ?_
                      refine tr_pass rfl rfl rfl ?_
                      refine tr_pass rfl rfl rfl ?_
                      refine tr_pass rfl rfl rfl ?_
                      refine tr_pass rfl rfl rfl ?_
                      refine tr_pass rfl rfl rfl ?_
                      refine tr_pass rfl rfl rfl ?_
                      refine tr_val (ov_pick_f (va := undef) rfl rfl rfl rfl) rfl rfl rfl ?_
                      refine tr_nil (hK47 _ _ (TrC.keep [152, 133, 132, 131, 130, 12, 92, 91, 11, 90, 89, 88, 15, 71, 70, 69, 68, 44, 43, 42, 41, 7, 37, 0, 1, 2] ?_))
                      show TrC _ _ _ _ [(152, _), (133, _), (132, _), (131, _), (130, _), (12, _), (92, _), (91, _), (11, _), (90, _), (89, _), (88, _), (15, _), (71, _), (70, _), (69, _), (68, _), (44, _), (43, _), (42, _), (41, _), (7, _), (37, _), (0, _), (1, _), (2, _)] _ _
                      refine tr_cond_f rfl rfl ?_
                      refine tr_skip (hK45 _ _ (TrC.keep [152, 133, 132, 131, 130, 12, 92, 91, 11, 90, 89, 88, 15, 71, 70, 69, 68, 44, 43, 42, 41, 7, 37, 0, 1, 2] ?_))
                      show TrC _ _ _ _ [(152, _), (133, _), (132, _), (131, _), (130, _), (12, _), (92, _), (91, _), (11, _), (90, _), (89, _), (88, _), (15, _), (71, _), (70, _), (69, _), (68, _), (44, _), (43, _), (42, _), (41, _), (7, _), (37, _), (0, _), (1, _), (2, _)] _ _
                      -- region 33: law.go:101
                      refine tr_region ?_
                      refine tr_val (ov_add rfl rfl rfl (w64 (by omega))) rfl rfl rfl ?_
                      refine tr_val (ov_move rfl rfl) rfl rfl rfl ?_
                      skip
                      exact tr_nil (hK42 (i + 1) _ _ (⟨by omega, by omega, H⟩) (by first | omega | (dsimp only; omega)) (Sub.cons rfl (Sub.cons rfl (Sub.cons rfl (Sub.cons rfl (Sub.cons rfl (Sub.cons rfl (Sub.cons rfl (Sub.cons rfl (Sub.cons rfl (Sub.cons rfl (Sub.cons rfl (Sub.cons rfl (Sub.cons rfl (Sub.cons rfl (Sub.cons rfl (Sub.cons rfl (Sub.cons rfl (Sub.cons rfl (Sub.cons rfl (Sub.cons rfl (Sub.cons rfl (Sub.cons rfl (Sub.cons rfl (Sub.cons rfl Sub.nil)))))))))))))))))))))))))
                  · skip
                    refine tr_exit (hK25 _ _ (TrC.keep [133, 132, 131, 130, 12, 92, 91, 11, 90, 89, 88, 15, 71, 70, 69, 68, 44, 43, 42, 41, 7, 37, 0, 1, 2] ?_))
                    show TrC _ _ _ _ [(133, _), (132, _), (131, _), (130, _), (12, _), (92, _), (91, _), (11, _), (90, _), (89, _), (88, _), (15, _), (71, _), (70, _), (69, _), (68, _), (44, _), (43, _), (42, _), (41, _), (7, _), (37, _), (0, _), (1, _), (2, _)] _ _
                    -- region 34: law.go:88
                    refine tr_region ?_
                    refine tr_val (ov_add rfl rfl rfl (w64 (by omega))) rfl rfl rfl ?_
                    refine tr_val (ov_move rfl rfl) rfl rfl rfl ?_
                    skip
                    exact tr_nil (hK22 (⟨j + 1, to_, to_, L1, M⟩) _ _ (⟨by omega, by omega, by omega, by omega, hms, hX1, H.drop0⟩) (by first | omega | (dsimp only; omega)) (Sub.cons rfl (Sub.cons rfl (Sub.cons rfl (Sub.cons rfl (Sub.cons rfl (Sub.cons rfl (Sub.cons rfl (Sub.cons rfl (Sub.cons rfl (Sub.cons rfl (Sub.cons rfl (Sub.cons rfl (Sub.cons rfl (Sub.cons rfl Sub.nil)))))))))))))))
            · skip
              refine tr_exit (hK20 _ _ (TrC.keep [71, 70, 12, 11, 69, 68, 44, 43, 42, 41, 7, 37, 0, 1, 2] ?_))
              show TrC _ _ _ _ [(71, _), (70, _), (12, _), (11, _), (69, _), (68, _), (44, _), (43, _), (42, _), (41, _), (7, _), (37, _), (0, _), (1, _), (2, _)] _ _
              refine tr_seq (fun K48 hK48 => ?_)
              -- region 35: law.go:107
              refine tr_region ?_
              refine tr_call (lives12_c _) rfl rfl rfl Try.call13 rfl rfl rfl ?_
              rintro _ w15 ⟨rfl, HC⟩
              have H := H.call0n HC
              refine tr_val (ov_assign rfl rfl) rfl rfl rfl ?_
              refine tr_nil (hK48 _ _ (TrC.keep [6, 71, 70, 12, 11, 69, 68, 44, 43, 42, 41, 7, 37, 0, 1, 2] ?_))
              show TrC _ _ _ _ [(6, _), (71, _), (70, _), (12, _), (11, _), (69, _), (68, _), (44, _), (43, _), (42, _), (41, _), (7, _), (37, _), (0, _), (1, _), (2, _)] _ _
              refine tr_ret (post_ret1 (.inr rfl) rfl rfl ?_)
              first | exact ⟨rfl, H⟩ | exact ⟨rfl, H.drop0.drop0⟩

end Go.Proofs.Ytblipnjjgbggiaa
