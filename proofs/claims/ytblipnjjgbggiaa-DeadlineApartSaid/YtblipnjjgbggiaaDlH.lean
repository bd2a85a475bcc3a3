/- Contracts of wheel.Wheel: DeadlineApart. Conditions: none. -/
import Derived.Test.YtblipnjjgbggiaaDlG
namespace Go.Proofs.Ytblipnjjgbggiaa
open Go Go.RowKit
set_option linter.unusedVariables false
set_option linter.unusedSimpArgs false

/-! curfew/curfewlaw13.DeadlineApart -/
set_option maxRecDepth 20000 in
theorem DeadlineApart_c (B : Option Addr) (c : Nat) (X : List Thing) (now last : Int) (B0 : Option Addr) (c0 : Nat) (Q : List DOp) (w : World) (hR : Rd w B 3 (X.map encThing)) (hQ : Rd w B0 3 (Q.map encDOp)) (h0 : 0 ≤ last) (od : DOp) : Does Try.prog 10 #[.agg #[.int .i64 now, .int .u64 last, .slice B (X).length c], .slice B0 Q.length c0, .agg #[.int .i64 od.kind, .int .u64 od.id, .int .i64 od.at_]] w (fun v w' => v = .bool true ∧ SH w noBlocks [] w') := by
  refine does_enter3 Try.func10 rfl Try.ntmps10 rfl ?_
  have H := SH.start w noBlocks
  refine tr_seq (fun K1 hK1 => ?_)
  -- region 0: law.go:134
  refine tr_region ?_
  refine tr_box H rfl rfl rfl rfl rfl rfl ?_
  intro b1 w1 hb1 H
  refine tr_box H rfl rfl rfl rfl rfl rfl ?_
  intro b2 w2 hb2 H
  refine tr_val (ov_assign rfl rfl) rfl rfl rfl ?_
  refine tr_nil (hK1 _ _ (TrC.keep [6, 5, 3, 1] ?_))
  show TrC _ _ _ _ [(6, _), (5, _), (3, _), (1, _)] _ _
  refine tr_seq (fun K2 hK2 => ?_)
  refine tr_seq (fun K3 hK3 => ?_)
  -- region 1: law.go:135
  refine tr_region ?_
  refine tr_val (ov_load_blkN H.get1 rfl (Try.isAgg78 _) (Try.sizeOf78 _) rfl rfl rfl) rfl rfl rfl ?_
  refine tr_call (light_c B c X now last _) rfl rfl rfl Try.call34 rfl rfl rfl ?_
  rintro _ w3 ⟨rfl, HC⟩
  have H := H.call0n HC
  refine tr_val (ov_not rfl rfl) rfl rfl rfl ?_
  refine tr_val (ov_move rfl rfl) rfl rfl rfl ?_
  refine tr_split (t := 20) rfl (fun s20 => ?_) (fun s20 => ?_)
  · skip
    refine tr_pass rfl rfl rfl ?_
    refine tr_pass rfl rfl rfl ?_
    refine tr_pass rfl rfl rfl ?_
    refine tr_val (ov_pick (vb := undef) rfl rfl rfl rfl) rfl rfl rfl ?_
    refine tr_val (ov_move rfl rfl) rfl rfl rfl ?_
    refine tr_pass rfl rfl rfl ?_
    refine tr_pass rfl rfl rfl ?_
    refine tr_pass rfl rfl rfl ?_
    refine tr_pass rfl rfl rfl ?_
    refine tr_val (ov_pick (vb := undef) rfl rfl rfl rfl) rfl rfl rfl ?_
    refine tr_nil (hK3 _ _ (TrC.keep [30, 6, 5, 3, 1] ?_))
    show TrC _ _ _ _ [(30, _), (6, _), (5, _), (3, _), (1, _)] _ _
    refine tr_cond_t rfl rfl ?_
    refine tr_seq (fun K4 hK4 => ?_)
    -- region 2: law.go:136
    refine tr_region ?_
    refine tr_call (lives13_c _) rfl rfl rfl Try.call29 rfl rfl rfl ?_
    rintro _ w4 ⟨rfl, HC⟩
    have H := H.call0n HC
    refine tr_val (ov_assign rfl rfl) rfl rfl rfl ?_
    refine tr_nil (hK4 _ _ (TrC.keep [6, 30, 5, 3, 1] ?_))
    show TrC _ _ _ _ [(6, _), (30, _), (5, _), (3, _), (1, _)] _ _
    refine tr_ret (post_ret1 (.inr rfl) rfl rfl ?_)
    exact ⟨rfl, H.drop0.drop0⟩
  · skip
    refine tr_val (ov_move rfl rfl) rfl rfl rfl ?_
    refine tr_val (ov_len rfl rfl Try.underlying68 rfl) rfl rfl rfl ?_
    refine tr_val (ov_gtr rfl rfl rfl) rfl rfl rfl ?_
    refine tr_val (ov_pick_f (va := undef) rfl rfl rfl rfl) rfl rfl rfl ?_
    refine tr_val (ov_move rfl rfl) rfl rfl rfl ?_
    refine tr_split (t := 25) rfl (fun s25 => ?_) (fun s25 => ?_)
    · skip
      refine tr_pass rfl rfl rfl ?_
      refine tr_pass rfl rfl rfl ?_
      refine tr_pass rfl rfl rfl ?_
      refine tr_pass rfl rfl rfl ?_
      refine tr_val (ov_pick (vb := undef) rfl rfl rfl rfl) rfl rfl rfl ?_
      refine tr_nil (hK3 _ _ (TrC.keep [30, 6, 5, 3, 1] ?_))
      show TrC _ _ _ _ [(30, _), (6, _), (5, _), (3, _), (1, _)] _ _
      refine tr_cond_t rfl rfl ?_
      refine tr_seq (fun K5 hK5 => ?_)
      -- region 2: law.go:136
      refine tr_region ?_
      refine tr_call (lives13_c _) rfl rfl rfl Try.call29 rfl rfl rfl ?_
      rintro _ w5 ⟨rfl, HC⟩
      have H := H.call0n HC
      refine tr_val (ov_assign rfl rfl) rfl rfl rfl ?_
      refine tr_nil (hK5 _ _ (TrC.keep [6, 30, 5, 3, 1] ?_))
      show TrC _ _ _ _ [(6, _), (30, _), (5, _), (3, _), (1, _)] _ _
      refine tr_ret (post_ret1 (.inr rfl) rfl rfl ?_)
      exact ⟨rfl, H.drop0.drop0⟩
    · skip
      refine tr_val (ov_load_blkN H.get1 rfl (Try.isAgg78 _) (Try.sizeOf78 _) rfl rfl rfl) rfl rfl rfl ?_
      refine tr_call (Plain13_c B c X now last _ (H.rd0 hR) (by omega)) rfl rfl rfl Try.call36 rfl rfl rfl ?_
      rintro _ w6 ⟨A9, c9, rfl, HC⟩
      have H := H.call0r HC
      have hzl := zR_len X
      refine tr_call (SoundR_c A9 c9 (zR X) now last _ (vec_rd H.get0 lenRThing (by decide)) (by omega)) rfl rfl rfl Try.call37 rfl rfl rfl ?_
      rintro _ w7 ⟨rfl, HC⟩
      have H := H.call0n HC
      rw [zR_plain]
      refine tr_val (ov_notb rfl rfl) rfl rfl rfl ?_
      refine tr_val (ov_pick_f (va := undef) rfl rfl rfl rfl) rfl rfl rfl ?_
      refine tr_nil (hK3 _ _ (TrC.keep [30, 6, 5, 3, 1] ?_))
      show TrC _ _ _ _ [(30, _), (6, _), (5, _), (3, _), (1, _)] _ _
      refine tr_condb rfl (fun c30 => ?_) (fun c30 => ?_)
      · skip
        refine tr_seq (fun K6 hK6 => ?_)
        -- region 2: law.go:136
        refine tr_region ?_
        refine tr_call (lives13_c _) rfl rfl rfl Try.call29 rfl rfl rfl ?_
        rintro _ w8 ⟨rfl, HC⟩
        have H := H.call0n HC
        refine tr_val (ov_assign rfl rfl) rfl rfl rfl ?_
        refine tr_nil (hK6 _ _ (TrC.keep [6, 30, 5, 3, 1] ?_))
        show TrC _ _ _ _ [(6, _), (30, _), (5, _), (3, _), (1, _)] _ _
        refine tr_ret (post_ret1 (.inr rfl) rfl rfl ?_)
        exact ⟨rfl, H.drop0.drop0.drop0⟩
      · skip
        refine tr_skip (hK2 _ _ (TrC.keep [30, 6, 5, 3, 1] ?_))
        show TrC _ _ _ _ [(30, _), (6, _), (5, _), (3, _), (1, _)] _ _
        refine tr_seq (fun K7 hK7 => ?_)
        -- region 3: law.go:138
        have hs : sndP now last X := sndB_true.mp (by cases q : sndB now last X with | true => rfl | false => rw [q] at c30; cases c30)
        have H := H.drop0
        have hss := snd_sort hs.2.2.2
        refine tr_region ?_
        refine tr_val (ov_load_blkN H.get1 rfl (Try.isAgg78 _) (Try.sizeOf78 _) rfl rfl rfl) rfl rfl rfl ?_
        refine tr_call (Load_c B c X now last _ (H.rd0 hR) (by omega) h0 hs) rfl rfl rfl Try.call35 rfl rfl rfl ?_
        rintro _ w9 ⟨b, L0, rfl, hX0, HC⟩
        have H := H.call0r HC
        refine tr_val (ov_move rfl rfl) rfl rfl rfl ?_
        refine tr_val (ov_extract rfl rfl rfl) rfl rfl rfl ?_
        refine tr_val (ov_extract rfl rfl rfl) rfl rfl rfl ?_
        refine tr_val (ov_assign rfl rfl) rfl rfl rfl ?_
        refine tr_val (ov_assign rfl rfl) rfl rfl rfl ?_
        refine tr_nil (hK7 _ _ (TrC.keep [8, 7, 30, 6, 5, 3, 1] ?_))
        show TrC _ _ _ _ [(8, _), (7, _), (30, _), (6, _), (5, _), (3, _), (1, _)] _ _
        refine tr_seq (fun K8 hK8 => ?_)
        refine tr_seq (fun K9 hK9 => ?_)
        -- region 4: law.go:139
        refine tr_region ?_
        refine tr_val (ov_move rfl rfl) rfl rfl rfl ?_
        refine tr_val (ov_neq rfl rfl rfl) rfl rfl rfl ?_
        refine tr_nil (hK9 _ _ (TrC.keep [38, 7, 30, 6, 5, 3, 1] ?_))
        show TrC _ _ _ _ [(38, _), (7, _), (30, _), (6, _), (5, _), (3, _), (1, _)] _ _
        refine tr_cond rfl (fun c38 => ?_) (fun c38 => ?_)
        · exact absurd rfl c38
        · skip
          refine tr_skip (hK8 _ _ (TrC.keep [38, 7, 30, 6, 5, 3, 1] ?_))
          show TrC _ _ _ _ [(38, _), (7, _), (30, _), (6, _), (5, _), (3, _), (1, _)] _ _
          refine tr_seq (fun K10 hK10 => ?_)
          -- region 6: law.go:142
          refine tr_region ?_
          refine tr_val (ov_move rfl rfl) rfl rfl rfl ?_
          refine tr_call (bClone_c b now last X L0 _ hX0 H.get0 (by rw [hss]; exact hs)) rfl rfl rfl Try.call40 rfl rfl rfl ?_
          rintro _ w10 ⟨b', Lc0, rfl, hB0, HC⟩
          have H := H.call0r HC
          rw [hss] at hB0
          refine tr_val (ov_assign rfl rfl) rfl rfl rfl ?_
          refine tr_nil (hK10 _ _ (TrC.keep [9, 38, 7, 30, 6, 5, 3, 1] ?_))
          show TrC _ _ _ _ [(9, _), (38, _), (7, _), (30, _), (6, _), (5, _), (3, _), (1, _)] _ _
          refine tr_seq (fun K11 hK11 => ?_)
          -- region 7: law.go:143
          refine tr_region ?_
          refine tr_val (ov_load_blkN H.get3 rfl (Try.isAgg78 _) (Try.sizeOf78 _) rfl rfl rfl) rfl rfl rfl ?_
          refine tr_call (Plain13_c B c X now last _ (H.rd0 hR) (by omega)) rfl rfl rfl Try.call36 rfl rfl rfl ?_
          rintro _ w11 ⟨A0, c0', rfl, HC⟩
          have H := H.call0r HC
          refine tr_alloc H rfl (Try.zeroValue85 _) rfl rfl rfl rfl ?_
          intro b3 w12 hb3 H
          (refine tr_storeW H.get0 rfl (Try.sizeOf85 _) rfl rfl rfl rfl rfl rfl rfl rfl ?_; intro w13 U; have H := H.upd0 U; clear U)
          refine tr_nil (hK11 _ _ (TrC.keep [10, 9, 38, 7, 30, 6, 5, 3, 1] ?_))
          show TrC _ _ _ _ [(10, _), (9, _), (38, _), (7, _), (30, _), (6, _), (5, _), (3, _), (1, _)] _ _
          refine tr_seq (fun K12 hK12 => ?_)
          -- region 8: law.go:144
          have hc0 := vec_len H.get1
          have H := H.upd1 (upd_rdr_of_vec H.get1 lenRThing (by decide))
          refine tr_region ?_
          refine tr_val (ov_move rfl rfl) rfl rfl rfl ?_
          refine tr_val (ov_load_blkN H.get0 rfl (Try.isAgg85 _) (Try.sizeOf85 _) rfl rfl rfl) rfl rfl rfl ?_
          refine tr_val (ov_load_blkN H.get4 rfl (Try.isAgg74 _) (Try.sizeOf74 _) rfl rfl rfl) rfl rfl rfl ?_
          refine tr_call (do13_r A0 c0' b now last X L0 _ hX0 (snd_up hs.2.2.2) hc0 H.get1 ((H.drop0.drop1 : SH _ _ [_, _, _, _] _).dis2) H.get3 od) rfl rfl rfl Try.call38 rfl rfl rfl ?_
          rintro _ w14 ⟨A1, c1, bo, rfl, hbo, hc1, L1, hX1, HC⟩
          have H := H.top3.call1e HC
          have hU1 := dX_up (now := now) (last := last) (q := od) (snd_up hs.2.2.2)
          obtain ⟨hids1, hdue1, hfew1, _, _⟩ := bookX_of hX1
          have hq1 := zR_len (dX now last X od)
          have hq2 := sortT_len (dX now last X od)
          have hq3 := zR_len (sortT (dX now last X od))
          have hq4 := zR_len (sortT X)
          have hq5 := sortT_len X
          have hsy := sort_up hids1 hU1
          refine tr_val (ov_move rfl rfl) rfl rfl rfl ?_
          refine tr_val (ov_extract rfl rfl rfl) rfl rfl rfl ?_
          refine tr_val (ov_extract rfl rfl rfl) rfl rfl rfl ?_
          refine tr_alloc H rfl (Try.zeroValue85 _) rfl rfl rfl rfl ?_
          intro b4 w15 hb4 H
          (refine tr_storeW H.get0 rfl (Try.sizeOf85 _) rfl rfl rfl rfl rfl rfl rfl rfl ?_; intro w16 U; have H := H.upd0 U; clear U)
          refine tr_val (ov_assign rfl rfl) rfl rfl rfl ?_
          refine tr_nil (hK12 _ _ (TrC.keep [12, 11, 10, 9, 38, 7, 30, 6, 3, 1] ?_))
          show TrC _ _ _ _ [(12, _), (11, _), (10, _), (9, _), (38, _), (7, _), (30, _), (6, _), (3, _), (1, _)] _ _
          refine tr_seq (fun K13 hK13 => ?_)
          refine tr_seq (fun K14 hK14 => ?_)
          -- region 9: law.go:145
          refine tr_held (fun w' => (blk b3 85 [.int .i64 now, .int .u64 last, .slice A0 ((zR X)).length c0']).holds w' ∧ (blk b4 85 [.int .i64 (dN now od), .int .u64 (dL last X od), .slice A1 ((zR (dX now last X od))).length c1]).holds w') mixed rfl H ?_
          intro w17 H
          refine th_take 0 rfl (by kernel_rfl) (by kernel_rfl) (by kernel_rfl) ((by exact ⟨H.get3, H.get0⟩)) (fun _ hS => ov_move rfl rfl) rfl rfl rfl ?_
          refine th_take 1 rfl (by kernel_rfl) (by kernel_rfl) (by kernel_rfl) ((by exact ⟨H.get3, H.get0⟩)) (fun _ hS => ov_notb rfl rfl) rfl rfl rfl ?_
          refine th_take 2 rfl (by kernel_rfl) (by kernel_rfl) (by kernel_rfl) ((by exact ⟨H.get3, H.get0⟩)) (fun _ hS => ov_move rfl rfl) rfl rfl rfl ?_
          refine th_splitb (t := 52) rfl (fun s52 => ?_) (fun s52 => ?_)
          · cases s52
          · skip
            refine th_take 3 rfl (by kernel_rfl) (by kernel_rfl) (by kernel_rfl) ((by exact ⟨H.get3, H.get0⟩)) (fun _ hS => ov_move rfl rfl) rfl rfl rfl ?_
            refine th_take 6 rfl (by kernel_rfl) (by kernel_rfl) (by kernel_rfl) ((by exact ⟨H.get3, H.get0⟩)) (fun _ hS => ov_load_blkN hS.1 rfl (Try.isAgg85 _) (Try.sizeOf85 _) rfl rfl rfl) rfl rfl rfl ?_
            refine th_one 4 (by kernel_rfl) ?_
            refine tw_call (bState_c b' now last X Lc0 _ hB0 H.get5) rfl rfl rfl rfl Try.call33 rfl rfl rfl ?_
            rintro _ w18 ⟨A5, c5, rfl, HC⟩
            have H := H.call0r HC
            refine ⟨(by exact ⟨H.get4, H.get1⟩), ?_⟩
            refine th_one 5 (by kernel_rfl) ?_
            refine tw_call (Plain13_c A5 c5 (sortT X) now last _ (vec_rd H.get0 lenThing (by decide)) (by omega)) rfl rfl rfl rfl Try.call36 rfl rfl rfl ?_
            rintro _ w19 ⟨A6, c6, rfl, HC⟩
            have H := H.call0r HC
            refine ⟨(by exact ⟨H.get5, H.get2⟩), ?_⟩
            refine th_one 7 (by kernel_rfl) ?_
            refine tw_call (Same13_c A6 c6 (zR (sortT X)) now last A0 c0' (zR X) now last _ (vec_rd H.get0 lenRThing (by decide)) (rdr_rd H.get6) (by omega)) rfl rfl rfl rfl Try.call39 rfl rfl rfl ?_
            rintro _ w20 ⟨rfl, HC⟩
            have H := H.call0n HC
            refine ⟨(by exact ⟨H.get5, H.get2⟩), ?_⟩
            refine th_take 8 rfl (by kernel_rfl) (by kernel_rfl) (by kernel_rfl) ((by exact ⟨H.get5, H.get2⟩)) (fun _ hS => ov_not rfl rfl) rfl rfl rfl ?_
            refine th_take 9 rfl (by kernel_rfl) (by kernel_rfl) (by kernel_rfl) ((by exact ⟨H.get5, H.get2⟩)) (fun _ hS => ov_pick_f (va := undef) rfl rfl rfl rfl) rfl rfl rfl ?_
            refine th_take 10 rfl (by kernel_rfl) (by kernel_rfl) (by kernel_rfl) ((by exact ⟨H.get5, H.get2⟩)) (fun _ hS => ov_move rfl rfl) rfl rfl rfl ?_
            refine th_split (t := 60) rfl (fun s60 => ?_) (fun s60 => ?_)
            · exact (s60 ⟨rfl, rfl, by rw [hss]⟩).elim
            · skip
              refine th_take 11 rfl (by kernel_rfl) (by kernel_rfl) (by kernel_rfl) ((by exact ⟨H.get5, H.get2⟩)) (fun _ hS => ov_move rfl rfl) rfl rfl rfl ?_
              refine th_take 14 rfl (by kernel_rfl) (by kernel_rfl) (by kernel_rfl) ((by exact ⟨H.get5, H.get2⟩)) (fun _ hS => ov_load_blkN hS.2 rfl (Try.isAgg85 _) (Try.sizeOf85 _) rfl rfl rfl) rfl rfl rfl ?_
              refine th_one 12 (by kernel_rfl) ?_
              refine tw_call (bState_c b (dN now od) (dL last X od) (dX now last X od) L1 _ hX1 H.get4) rfl rfl rfl rfl Try.call33 rfl rfl rfl ?_
              rintro _ w21 ⟨A7, c7, rfl, HC⟩
              have H := H.call0r HC
              refine ⟨(by exact ⟨H.get6, H.get3⟩), ?_⟩
              refine th_one 13 (by kernel_rfl) ?_
              refine tw_call (Plain13_c A7 c7 (sortT (dX now last X od)) (dN now od) (dL last X od) _ (vec_rd H.get0 lenThing (by decide)) (by omega)) rfl rfl rfl rfl Try.call36 rfl rfl rfl ?_
              rintro _ w22 ⟨A8, c8, rfl, HC⟩
              have H := H.call0r HC
              refine ⟨(by exact ⟨H.get7, H.get4⟩), ?_⟩
              refine th_one 15 (by kernel_rfl) ?_
              refine tw_call (Same13_c A8 c8 (zR (sortT (dX now last X od))) (dN now od) (dL last X od) A1 c1 (zR (dX now last X od)) (dN now od) (dL last X od) _ (vec_rd H.get0 lenRThing (by decide)) (opt_rd hbo (rdr_rd H.get8) H.get5) (by omega)) rfl rfl rfl rfl Try.call39 rfl rfl rfl ?_
              rintro _ w23 ⟨rfl, HC⟩
              have H := H.call0n HC
              refine ⟨(by exact ⟨H.get7, H.get4⟩), ?_⟩
              refine th_take 16 rfl (by kernel_rfl) (by kernel_rfl) (by kernel_rfl) ((by exact ⟨H.get7, H.get4⟩)) (fun _ hS => ov_not rfl rfl) rfl rfl rfl ?_
              refine th_take 17 rfl (by kernel_rfl) (by kernel_rfl) (by kernel_rfl) ((by exact ⟨H.get7, H.get4⟩)) (fun _ hS => ov_pick_f (va := undef) rfl rfl rfl rfl) rfl rfl rfl ?_
              refine th_done (by kernel_rfl) ?_
              refine hK14 _ _ (TrC.keep [67, 11, 10, 9, 38, 7, 30, 6, 3, 1] ?_)
              show TrC _ _ _ _ [(67, _), (11, _), (10, _), (9, _), (38, _), (7, _), (30, _), (6, _), (3, _), (1, _)] _ _
              refine tr_cond rfl (fun c67 => ?_) (fun c67 => ?_)
              · exact (c67 ⟨rfl, rfl, by rw [hsy]⟩).elim
              · skip
                refine tr_skip (hK13 _ _ (TrC.keep [67, 11, 10, 9, 38, 7, 30, 6, 3, 1] ?_))
                show TrC _ _ _ _ [(67, _), (11, _), (10, _), (9, _), (38, _), (7, _), (30, _), (6, _), (3, _), (1, _)] _ _
                refine tr_seq (fun K15 hK15 => ?_)
                refine tr_seq (fun K16 hK16 => ?_)
                -- region 11: law.go:148
                have H := H.drop0.drop0.drop0.drop0
                have H := (H.optNil A0 (zR X)).top3.top3.top3.top4.top5.top5.top6
                refine tr_region ?_
                refine tr_val (ov_move rfl rfl) rfl rfl rfl ?_
                refine tr_val (ov_len rfl rfl Try.underlying68 rfl) rfl rfl rfl ?_
                refine tr_val (ov_move rfl rfl) rfl rfl rfl ?_
                refine tr_nil (hK16 _ _ (TrC.keep [70, 69, 68, 67, 11, 10, 9, 38, 7, 30, 6, 3, 1] ?_))
                show TrC _ _ _ _ [(70, _), (69, _), (68, _), (67, _), (11, _), (10, _), (9, _), (38, _), (7, _), (30, _), (6, _), (3, _), (1, _)] _ _
                refine tr_block ?_
                refine tr_loop_ (X := Int × Int × Int × List Thing × Option Addr × Nat × Bool × List Res) [69, 68, 67, 11, 10, 9, 38, 7, 30, 3, 1] (fun ⟨i, n, l, X1, A2, c2, bo1, Lc⟩ => [(70, .int .i64 i)]) (fun ⟨i, n, l, X1, A2, c2, bo1, Lc⟩ w' => 0 ≤ i ∧ i ≤ Q.length ∧ (bo1 = false → A2 = A0 ∧ zR X1 = zR X) ∧ (zR X1).length ≤ c2 ∧ UpT X1 ∧ BookX b' n l X1 Lc ∧ SH w noBlocks [pack Lc, optV bo1 A2 (zR X1), rdr A0 4 ((zR X).map encRThing), blk b3 85 [.int .i64 n, .int .u64 l, .slice A2 ((zR X1)).length c2], blk b4 85 [.int .i64 (dN now od), .int .u64 (dL last X od), .slice A1 ((zR (dX now last X od))).length c1], optV bo A1 (zR (dX now last X od)), pack L1, blk b2 74 [.int .i64 od.kind, .int .u64 od.id, .int .i64 od.at_], blk b1 78 [.int .i64 now, .int .u64 last, .slice B (X).length c]] w') (fun ⟨i, n, l, X1, A2, c2, bo1, Lc⟩ => (Q.length - i).toNat) (⟨0, now, last, X, A0, c0', false, Lc0⟩) (Sub.cons rfl (Sub.cons rfl (Sub.cons rfl (Sub.cons rfl (Sub.cons rfl (Sub.cons rfl (Sub.cons rfl (Sub.cons rfl (Sub.cons rfl (Sub.cons rfl (Sub.cons rfl (Sub.cons rfl Sub.nil)))))))))))) (⟨by omega, by omega, fun _ => ⟨rfl, rfl⟩, hc0, snd_up hs.2.2.2, hB0, H⟩) ?_
                rintro ⟨i, n, l, X1, A2, c2, bo1, Lc⟩ w24 ⟨hi0, hi1, hbo1, hc2, hU, hX, H⟩ K17 hK17
                show TrC _ _ _ _ [(70, _), (69, _), (68, _), (67, _), (11, _), (10, _), (9, _), (38, _), (7, _), (30, _), (3, _), (1, _)] _ _
                refine tr_seq (fun K18 hK18 => ?_)
                -- region 12: law.go:148
                refine tr_region ?_
                refine tr_val (ov_lss rfl rfl rfl) rfl rfl rfl ?_
                refine tr_nil (hK18 _ _ (TrC.keep [71, 70, 69, 68, 67, 11, 10, 9, 38, 7, 30, 3, 1] ?_))
                show TrC _ _ _ _ [(71, _), (70, _), (69, _), (68, _), (67, _), (11, _), (10, _), (9, _), (38, _), (7, _), (30, _), (3, _), (1, _)] _ _
                refine tr_seq (fun K19 hK19 => ?_)
                refine tr_cond rfl (fun c71 => ?_) (fun c71 => ?_)
                · skip
                  refine tr_skip (hK19 _ _ (TrC.keep [71, 70, 69, 68, 67, 11, 10, 9, 38, 7, 30, 3, 1] ?_))
                  show TrC _ _ _ _ [(71, _), (70, _), (69, _), (68, _), (67, _), (11, _), (10, _), (9, _), (38, _), (7, _), (30, _), (3, _), (1, _)] _ _
                  refine tr_seq (fun K20 hK20 => ?_)
                  refine tr_block ?_
                  refine tr_seq (fun K21 hK21 => ?_)
                  -- region 13: law.go:148
                  refine tr_region ?_
                  refine tr_val (ov_indexAddrR (H.rd0 hQ) rfl Try.underlying68 (Try.sizeOf74 _) rfl rfl (by omega) (by omega)) rfl rfl rfl ?_
                  refine tr_val (ld_DOp (H.rd0 hQ) rfl (Try.isAgg74 _) (Try.sizeOf74 _) rfl (by omega) (by omega)) rfl rfl rfl ?_
                  refine tr_alloc H rfl (Try.zeroValue74 _) rfl rfl rfl rfl ?_
                  intro b5 w25 hb5 H
                  (refine tr_storeW H.get0 rfl (Try.sizeOf74 _) rfl rfl rfl rfl rfl rfl rfl rfl ?_; intro w26 U; have H := H.upd0 U; clear U)
                  refine tr_nil (hK21 _ _ (TrC.keep [14, 71, 70, 69, 68, 67, 11, 10, 9, 38, 7, 30, 3, 1] ?_))
                  show TrC _ _ _ _ [(14, _), (71, _), (70, _), (69, _), (68, _), (67, _), (11, _), (10, _), (9, _), (38, _), (7, _), (30, _), (3, _), (1, _)] _ _
                  refine tr_seq (fun K22 hK22 => ?_)
                  -- region 14: law.go:149
                  refine tr_region ?_
                  refine tr_val (ov_move rfl rfl) rfl rfl rfl ?_
                  refine tr_val (ov_load_blkN H.get4 rfl (Try.isAgg85 _) (Try.sizeOf85 _) rfl rfl rfl) rfl rfl rfl ?_
                  refine tr_val (ov_load_blkN H.get0 rfl (Try.isAgg74 _) (Try.sizeOf74 _) rfl rfl rfl) rfl rfl rfl ?_
                  refine tr_call (do13_r A2 c2 b' n l X1 Lc _ hX hU hc2 (opt_use hbo1 H.drop0).1 (opt_use hbo1 H.drop0).2 H.get1 (gt Q i)) rfl rfl rfl Try.call38 rfl rfl rfl ?_
                  rintro _ w27 ⟨A3, c3, bo2, rfl, hbo2, hc3, Lc2, hX2, HC⟩
                  have H := H.top1.call1e HC
                  have hU2 := dX_up (now := n) (last := l) (q := gt Q i) hU
                  refine tr_val (ov_move rfl rfl) rfl rfl rfl ?_
                  refine tr_val (ov_extract rfl rfl rfl) rfl rfl rfl ?_
                  refine tr_val (ov_extract rfl rfl rfl) rfl rfl rfl ?_
                  refine tr_alloc H rfl (Try.zeroValue85 _) rfl rfl rfl rfl ?_
                  intro b6 w28 hb6 H
                  (refine tr_storeW H.get0 rfl (Try.sizeOf85 _) rfl rfl rfl rfl rfl rfl rfl rfl ?_; intro w29 U; have H := H.upd0 U; clear U)
                  refine tr_val (ov_assign rfl rfl) rfl rfl rfl ?_
                  refine tr_nil (hK22 _ _ (TrC.keep [16, 15, 14, 71, 70, 69, 68, 67, 11, 10, 9, 38, 7, 30, 3, 1] ?_))
                  show TrC _ _ _ _ [(16, _), (15, _), (14, _), (71, _), (70, _), (69, _), (68, _), (67, _), (11, _), (10, _), (9, _), (38, _), (7, _), (30, _), (3, _), (1, _)] _ _
                  refine tr_seq (fun K23 hK23 => ?_)
                  -- region 15: law.go:150
                  refine tr_region ?_
                  refine tr_val (ov_load_blkN H.get0 rfl (Try.isAgg85 _) (Try.sizeOf85 _) rfl rfl rfl) rfl rfl rfl ?_
                  (refine tr_storeW H.get6 rfl (Try.sizeOf85 _) rfl rfl rfl rfl rfl rfl rfl rfl ?_; intro w30 U; have H := H.upd6 U; clear U)
                  refine tr_nil (hK23 _ _ (TrC.keep [16, 15, 14, 71, 70, 69, 68, 67, 11, 10, 9, 38, 7, 30, 3, 1] ?_))
                  show TrC _ _ _ _ [(16, _), (15, _), (14, _), (71, _), (70, _), (69, _), (68, _), (67, _), (11, _), (10, _), (9, _), (38, _), (7, _), (30, _), (3, _), (1, _)] _ _
                  refine tr_seq (fun K24 hK24 => ?_)
                  -- region 16: law.go:151
                  refine tr_region ?_
                  refine tr_val (ov_move rfl rfl) rfl rfl rfl ?_
                  refine tr_val (ov_notb rfl rfl) rfl rfl rfl ?_
                  refine tr_nil (hK24 _ _ (TrC.keep [83, 15, 14, 71, 70, 69, 68, 67, 11, 10, 9, 38, 7, 30, 3, 1] ?_))
                  show TrC _ _ _ _ [(83, _), (15, _), (14, _), (71, _), (70, _), (69, _), (68, _), (67, _), (11, _), (10, _), (9, _), (38, _), (7, _), (30, _), (3, _), (1, _)] _ _
                  refine tr_condb rfl (fun c83 => ?_) (fun c83 => ?_)
                  · cases c83
                  · skip
                    refine tr_skip (hK20 _ _ (TrC.keep [83, 15, 14, 71, 70, 69, 68, 67, 11, 10, 9, 38, 7, 30, 3, 1] ?_))
                    show TrC _ _ _ _ [(83, _), (15, _), (14, _), (71, _), (70, _), (69, _), (68, _), (67, _), (11, _), (10, _), (9, _), (38, _), (7, _), (30, _), (3, _), (1, _)] _ _
                    -- region 18: law.go:148
                    refine tr_region ?_
                    refine tr_val (ov_add rfl rfl rfl (w64 (by omega))) rfl rfl rfl ?_
                    refine tr_val (ov_move rfl rfl) rfl rfl rfl ?_
                    obtain ⟨b7, hb7, H⟩ := opt_join hbo1 hbo2 H.drop0.drop2.top1
                    exact tr_nil (hK17 (⟨i + 1, (dN n (gt Q i)), (dL l X1 (gt Q i)), (dX n l X1 (gt Q i)), A3, c3, b7, Lc2⟩) _ _ (⟨by omega, by omega, hb7, hc3, hU2, hX2, H⟩) (by (dsimp only; omega)) (Sub.cons rfl (Sub.cons rfl (Sub.cons rfl (Sub.cons rfl (Sub.cons rfl (Sub.cons rfl (Sub.cons rfl (Sub.cons rfl (Sub.cons rfl (Sub.cons rfl (Sub.cons rfl (Sub.cons rfl Sub.nil)))))))))))))
                · skip
                  refine tr_exit (hK15 _ _ (TrC.keep [71, 70, 69, 68, 67, 11, 10, 9, 38, 7, 30, 3, 1] ?_))
                  show TrC _ _ _ _ [(71, _), (70, _), (69, _), (68, _), (67, _), (11, _), (10, _), (9, _), (38, _), (7, _), (30, _), (3, _), (1, _)] _ _
                  refine tr_seq (fun K25 hK25 => ?_)
                  -- region 19: law.go:155
                  obtain ⟨hids3, hdue3, hfew3, _, _⟩ := bookX_of hX
                  have hr1 := zR_len X1
                  have hr2 := sortT_len X1
                  have hr3 := zR_len (sortT X1)
                  have hsx := sort_up hids3 hU
                  refine tr_held (fun w' => (blk b3 85 [.int .i64 n, .int .u64 l, .slice A2 ((zR X1)).length c2]).holds w' ∧ (blk b4 85 [.int .i64 (dN now od), .int .u64 (dL last X od), .slice A1 ((zR (dX now last X od))).length c1]).holds w') mixed rfl H ?_
                  intro w31 H
                  refine th_take 0 rfl (by kernel_rfl) (by kernel_rfl) (by kernel_rfl) ((by exact ⟨H.get3, H.get4⟩)) (fun _ hS => ov_move rfl rfl) rfl rfl rfl ?_
                  refine th_take 3 rfl (by kernel_rfl) (by kernel_rfl) (by kernel_rfl) ((by exact ⟨H.get3, H.get4⟩)) (fun _ hS => ov_load_blkN hS.1 rfl (Try.isAgg85 _) (Try.sizeOf85 _) rfl rfl rfl) rfl rfl rfl ?_
                  refine th_one 1 (by kernel_rfl) ?_
                  refine tw_call (bState_c b' n l X1 Lc _ hX H.get0) rfl rfl rfl rfl Try.call33 rfl rfl rfl ?_
                  rintro _ w32 ⟨A5, c5, rfl, HC⟩
                  have H := H.call0r HC
                  refine ⟨(by exact ⟨H.get4, H.get5⟩), ?_⟩
                  refine th_one 2 (by kernel_rfl) ?_
                  refine tw_call (Plain13_c A5 c5 (sortT X1) n l _ (vec_rd H.get0 lenThing (by decide)) (by omega)) rfl rfl rfl rfl Try.call36 rfl rfl rfl ?_
                  rintro _ w33 ⟨A6, c6, rfl, HC⟩
                  have H := H.call0r HC
                  refine ⟨(by exact ⟨H.get5, H.get6⟩), ?_⟩
                  refine th_one 4 (by kernel_rfl) ?_
                  refine tw_call (Same13_c A6 c6 (zR (sortT X1)) n l A2 c2 (zR X1) n l _ (vec_rd H.get0 lenRThing (by decide)) (opt_rd hbo1 (rdr_rd H.get4) H.get3) (by omega)) rfl rfl rfl rfl Try.call39 rfl rfl rfl ?_
                  rintro _ w34 ⟨rfl, HC⟩
                  have H := H.call0n HC
                  refine ⟨(by exact ⟨H.get5, H.get6⟩), ?_⟩
                  refine th_take 5 rfl (by kernel_rfl) (by kernel_rfl) (by kernel_rfl) ((by exact ⟨H.get5, H.get6⟩)) (fun _ hS => ov_move rfl rfl) rfl rfl rfl ?_
                  refine th_split (t := 90) rfl (fun s90 => ?_) (fun s90 => ?_)
                  · skip
                    refine th_take 6 rfl (by kernel_rfl) (by kernel_rfl) (by kernel_rfl) ((by exact ⟨H.get5, H.get6⟩)) (fun _ hS => ov_move rfl rfl) rfl rfl rfl ?_
                    refine th_take 9 rfl (by kernel_rfl) (by kernel_rfl) (by kernel_rfl) ((by exact ⟨H.get5, H.get6⟩)) (fun _ hS => ov_load_blkN hS.2 rfl (Try.isAgg85 _) (Try.sizeOf85 _) rfl rfl rfl) rfl rfl rfl ?_
                    refine th_one 7 (by kernel_rfl) ?_
                    refine tw_call (bState_c b (dN now od) (dL last X od) (dX now last X od) L1 _ hX1 H.get8) rfl rfl rfl rfl Try.call33 rfl rfl rfl ?_
                    rintro _ w35 ⟨A7, c7, rfl, HC⟩
                    have H := H.call0r HC
                    refine ⟨(by exact ⟨H.get6, H.get7⟩), ?_⟩
                    refine th_one 8 (by kernel_rfl) ?_
                    refine tw_call (Plain13_c A7 c7 (sortT (dX now last X od)) (dN now od) (dL last X od) _ (vec_rd H.get0 lenThing (by decide)) (by omega)) rfl rfl rfl rfl Try.call36 rfl rfl rfl ?_
                    rintro _ w36 ⟨A8, c8, rfl, HC⟩
                    have H := H.call0r HC
                    refine ⟨(by exact ⟨H.get7, H.get8⟩), ?_⟩
                    refine th_one 10 (by kernel_rfl) ?_
                    refine tw_call (Same13_c A8 c8 (zR (sortT (dX now last X od))) (dN now od) (dL last X od) A1 c1 (zR (dX now last X od)) (dN now od) (dL last X od) _ (vec_rd H.get0 lenRThing (by decide)) (opt_rd hbo (rdr_rd H.get6) H.get9) (by omega)) rfl rfl rfl rfl Try.call39 rfl rfl rfl ?_
                    rintro _ w37 ⟨rfl, HC⟩
                    have H := H.call0n HC
                    refine ⟨(by exact ⟨H.get7, H.get8⟩), ?_⟩
                    refine th_take 11 rfl (by kernel_rfl) (by kernel_rfl) (by kernel_rfl) ((by exact ⟨H.get7, H.get8⟩)) (fun _ hS => ov_pick (vb := undef) rfl rfl rfl rfl) rfl rfl rfl ?_
                    refine th_take 12 rfl (by kernel_rfl) (by kernel_rfl) (by kernel_rfl) ((by exact ⟨H.get7, H.get8⟩)) (fun _ hS => ov_move rfl rfl) rfl rfl rfl ?_
                    refine th_split (t := 97) rfl (fun s97 => ?_) (fun s97 => ?_)
                    · skip
                      refine th_one 13 (by kernel_rfl) ?_
                      refine tw_call (lives13_c _) rfl rfl rfl rfl Try.call29 rfl rfl rfl ?_
                      rintro _ w38 ⟨rfl, HC⟩
                      have H := H.call0n HC
                      refine ⟨(by exact ⟨H.get7, H.get8⟩), ?_⟩
                      refine th_take 14 rfl (by kernel_rfl) (by kernel_rfl) (by kernel_rfl) ((by exact ⟨H.get7, H.get8⟩)) (fun _ hS => ov_pick (vb := undef) rfl rfl rfl rfl) rfl rfl rfl ?_
                      refine th_take 15 rfl (by kernel_rfl) (by kernel_rfl) (by kernel_rfl) ((by exact ⟨H.get7, H.get8⟩)) (fun _ hS => ov_assign rfl rfl) rfl rfl rfl ?_
                      refine th_done (by kernel_rfl) ?_
                      refine hK25 _ _ (TrC.keep [6, 71, 70, 69, 68, 67, 11, 10, 9, 38, 7, 30, 3, 1] ?_)
                      show TrC _ _ _ _ [(6, _), (71, _), (70, _), (69, _), (68, _), (67, _), (11, _), (10, _), (9, _), (38, _), (7, _), (30, _), (3, _), (1, _)] _ _
                      refine tr_ret (post_ret1 (.inr rfl) rfl rfl ?_)
                      exact ⟨rfl, H.drop0.drop0.drop0.drop0.drop0.drop0.drop0.drop0.drop0.drop0.drop0.drop0.drop0⟩
                    · exact (s97 ⟨rfl, rfl, by rw [hsy]⟩).elim
                  · exact (s90 ⟨rfl, rfl, by rw [hsx]⟩).elim

end Go.Proofs.Ytblipnjjgbggiaa
