/- Contracts of wheel.Wheel: DeadlinePlays. Conditions: none. -/
import Derived.Test.YtblipnjjgbggiaaDlE
namespace Go.Proofs.Ytblipnjjgbggiaa
open Go Go.RowKit
set_option linter.unusedVariables false
set_option linter.unusedSimpArgs false

theorem not_false' {b : Bool} (h : b = false) : (!b) = true := by rw [h]; rfl
theorem not_true' {b : Bool} (h : b = true) : (!b) = false := by rw [h]; rfl

/-! curfew/curfewlaw13.DeadlinePlays -/
set_option maxRecDepth 20000 in
theorem DeadlinePlays_n (B : Option Addr) (c : Nat) (X : List Thing) (now last : Int) (B0 : Option Addr) (c0 : Nat) (Q : List DOp) (w : World) (hR : Rd w B 3 (X.map encThing)) (hQ : Rd w B0 3 (Q.map encDOp)) (h0 : 0 ≤ last) (hs : ¬ sndP now last X) : Does Try.prog 9 #[.agg #[.int .i64 now, .int .u64 last, .slice B (X).length c], .slice B0 Q.length c0] w (fun v w' => v = .bool true ∧ SH w noBlocks [] w') := by
  refine does_enter2 Try.func9 rfl Try.ntmps9 rfl ?_
  have H := SH.start w noBlocks
  refine tr_seq (fun K1 hK1 => ?_)
  -- region 0: law.go:67
  refine tr_region ?_
  refine tr_box H rfl rfl rfl rfl rfl rfl ?_
  intro b1 w1 hb1 H
  refine tr_val (ov_assign rfl rfl) rfl rfl rfl ?_
  refine tr_nil (hK1 _ _ (TrC.keep [4, 2, 1] ?_))
  show TrC _ _ _ _ [(4, _), (2, _), (1, _)] _ _
  refine tr_seq (fun K2 hK2 => ?_)
  refine tr_seq (fun K3 hK3 => ?_)
  -- region 1: law.go:68
  refine tr_region ?_
  refine tr_val (ov_load_blkN H.get0 rfl (Try.isAgg78 _) (Try.sizeOf78 _) rfl rfl rfl) rfl rfl rfl ?_
  refine tr_call (light_c B c X now last _) rfl rfl rfl Try.call34 rfl rfl rfl ?_
  rintro _ w2 ⟨rfl, HC⟩
  have H := H.call0n HC
  refine tr_val (ov_not rfl rfl) rfl rfl rfl ?_
  refine tr_val (ov_move rfl rfl) rfl rfl rfl ?_
  refine tr_split (t := 15) rfl (fun s15 => ?_) (fun s15 => ?_)
  · skip
    refine tr_pass rfl rfl rfl ?_
    refine tr_pass rfl rfl rfl ?_
    refine tr_pass rfl rfl rfl ?_
    refine tr_val (ov_pick (vb := undef) rfl rfl rfl rfl) rfl rfl rfl ?_
    refine tr_nil (hK3 _ _ (TrC.keep [19, 4, 2, 1] ?_))
    show TrC _ _ _ _ [(19, _), (4, _), (2, _), (1, _)] _ _
    refine tr_cond_t rfl rfl ?_
    refine tr_seq (fun K4 hK4 => ?_)
    -- region 2: law.go:69
    refine tr_region ?_
    refine tr_call (lives13_c _) rfl rfl rfl Try.call29 rfl rfl rfl ?_
    rintro _ w3 ⟨rfl, HC⟩
    have H := H.call0n HC
    refine tr_val (ov_assign rfl rfl) rfl rfl rfl ?_
    refine tr_nil (hK4 _ _ (TrC.keep [4, 19, 2, 1] ?_))
    show TrC _ _ _ _ [(4, _), (19, _), (2, _), (1, _)] _ _
    refine tr_ret (post_ret1 (.inr rfl) rfl rfl ?_)
    exact ⟨rfl, H.drop0⟩
  · skip
    refine tr_val (ov_move rfl rfl) rfl rfl rfl ?_
    refine tr_val (ov_len rfl rfl Try.underlying68 rfl) rfl rfl rfl ?_
    refine tr_val (ov_gtr rfl rfl rfl) rfl rfl rfl ?_
    refine tr_val (ov_pick_f (va := undef) rfl rfl rfl rfl) rfl rfl rfl ?_
    refine tr_nil (hK3 _ _ (TrC.keep [19, 4, 2, 1] ?_))
    show TrC _ _ _ _ [(19, _), (4, _), (2, _), (1, _)] _ _
    refine tr_cond rfl (fun c19 => ?_) (fun c19 => ?_)
    · skip
      refine tr_seq (fun K5 hK5 => ?_)
      -- region 2: law.go:69
      refine tr_region ?_
      refine tr_call (lives13_c _) rfl rfl rfl Try.call29 rfl rfl rfl ?_
      rintro _ w4 ⟨rfl, HC⟩
      have H := H.call0n HC
      refine tr_val (ov_assign rfl rfl) rfl rfl rfl ?_
      refine tr_nil (hK5 _ _ (TrC.keep [4, 19, 2, 1] ?_))
      show TrC _ _ _ _ [(4, _), (19, _), (2, _), (1, _)] _ _
      refine tr_ret (post_ret1 (.inr rfl) rfl rfl ?_)
      exact ⟨rfl, H.drop0⟩
    · skip
      refine tr_skip (hK2 _ _ (TrC.keep [19, 4, 2, 1] ?_))
      show TrC _ _ _ _ [(19, _), (4, _), (2, _), (1, _)] _ _
      refine tr_seq (fun K6 hK6 => ?_)
      -- region 3: law.go:71
      refine tr_region ?_
      refine tr_val (ov_load_blkN H.get0 rfl (Try.isAgg78 _) (Try.sizeOf78 _) rfl rfl rfl) rfl rfl rfl ?_
      refine tr_call (Load_n B c X now last _ (H.rd0 hR) (by omega) hs) rfl rfl rfl Try.call35 rfl rfl rfl ?_
      rintro _ w5 ⟨rfl, HC⟩
      have H := H.call0n HC
      refine tr_val (ov_move rfl rfl) rfl rfl rfl ?_
      refine tr_val (ov_extract rfl rfl rfl) rfl rfl rfl ?_
      refine tr_val (ov_extract rfl rfl rfl) rfl rfl rfl ?_
      refine tr_val (ov_assign rfl rfl) rfl rfl rfl ?_
      refine tr_val (ov_assign rfl rfl) rfl rfl rfl ?_
      refine tr_nil (hK6 _ _ (TrC.keep [6, 5, 19, 4, 2, 1] ?_))
      show TrC _ _ _ _ [(6, _), (5, _), (19, _), (4, _), (2, _), (1, _)] _ _
      refine tr_seq (fun K7 hK7 => ?_)
      -- region 4: law.go:72
      refine tr_region ?_
      refine tr_val (ov_load_blkN H.get0 rfl (Try.isAgg78 _) (Try.sizeOf78 _) rfl rfl rfl) rfl rfl rfl ?_
      refine tr_call (Plain13_c B c X now last _ (H.rd0 hR) (by omega)) rfl rfl rfl Try.call36 rfl rfl rfl ?_
      rintro _ w6 ⟨A1, c1, rfl, HC⟩
      have H := H.call0r HC
      have hzl := zR_len X
      refine tr_alloc H rfl (Try.zeroValue85 _) rfl rfl rfl rfl ?_
      intro b2 w7 hb2 H
      (refine tr_storeW H.get0 rfl (Try.sizeOf85 _) rfl rfl rfl rfl rfl rfl rfl rfl ?_; intro w8 U; have H := H.upd0 U; clear U)
      refine tr_nil (hK7 _ _ (TrC.keep [7, 6, 5, 19, 4, 2, 1] ?_))
      show TrC _ _ _ _ [(7, _), (6, _), (5, _), (19, _), (4, _), (2, _), (1, _)] _ _
      refine tr_seq (fun K8 hK8 => ?_)
      refine tr_seq (fun K9 hK9 => ?_)
      -- region 5: law.go:73
      refine tr_region ?_
      refine tr_val (ov_load_blkN H.get0 rfl (Try.isAgg85 _) (Try.sizeOf85 _) rfl rfl rfl) rfl rfl rfl ?_
      refine tr_call (SoundR_c A1 c1 (zR X) now last _ (vec_rd H.get1 lenRThing (by decide)) (by omega)) rfl rfl rfl Try.call37 rfl rfl rfl ?_
      rintro _ w9 ⟨rfl, HC⟩
      have H := H.call0n HC
      rw [zR_plain, sndB_false hs]
      refine tr_val (ov_notb rfl rfl) rfl rfl rfl ?_
      refine tr_nil (hK9 _ _ (TrC.keep [30, 7, 6, 5, 19, 4, 2, 1] ?_))
      show TrC _ _ _ _ [(30, _), (7, _), (6, _), (5, _), (19, _), (4, _), (2, _), (1, _)] _ _
      refine tr_condb rfl (fun c30 => ?_) (fun c30 => ?_)
      · skip
        refine tr_seq (fun K10 hK10 => ?_)
        -- region 6: law.go:74
        refine tr_region ?_
        refine tr_val (ov_move rfl rfl) rfl rfl rfl ?_
        refine tr_val (ov_eql_nil rfl Try.underlying69 rfl rfl) rfl rfl rfl ?_
        refine tr_val (ov_move rfl rfl) rfl rfl rfl ?_
        refine tr_splitb (t := 33) rfl (fun s33 => ?_) (fun s33 => ?_)
        · skip
          refine tr_val (ov_move rfl rfl) rfl rfl rfl ?_
          refine tr_val (ov_eql rfl rfl rfl) rfl rfl rfl ?_
          refine tr_val (ov_pick (vb := undef) rfl rfl rfl rfl) rfl rfl rfl ?_
          refine tr_val (ov_move rfl rfl) rfl rfl rfl ?_
          refine tr_split (t := 37) rfl (fun s37 => ?_) (fun s37 => ?_)
          · skip
            refine tr_call (lives13_c _) rfl rfl rfl Try.call29 rfl rfl rfl ?_
            rintro _ w10 ⟨rfl, HC⟩
            have H := H.call0n HC
            refine tr_val (ov_pick (vb := undef) rfl rfl rfl rfl) rfl rfl rfl ?_
            refine tr_val (ov_assign rfl rfl) rfl rfl rfl ?_
            refine tr_nil (hK10 _ _ (TrC.keep [4, 30, 7, 6, 5, 19, 2, 1] ?_))
            show TrC _ _ _ _ [(4, _), (30, _), (7, _), (6, _), (5, _), (19, _), (2, _), (1, _)] _ _
            refine tr_ret (post_ret1 (.inr rfl) rfl rfl ?_)
            exact ⟨rfl, H.drop0.drop0.drop0⟩
          · exact absurd rfl s37
        · cases s33
      · cases c30

/-! curfew/curfewlaw13.DeadlinePlays -/
set_option maxRecDepth 20000 in
theorem DeadlinePlays_s (B : Option Addr) (c : Nat) (X : List Thing) (now last : Int) (B0 : Option Addr) (c0 : Nat) (Q : List DOp) (w : World) (hR : Rd w B 3 (X.map encThing)) (hQ : Rd w B0 3 (Q.map encDOp)) (h0 : 0 ≤ last) (hs : sndP now last X) : Does Try.prog 9 #[.agg #[.int .i64 now, .int .u64 last, .slice B (X).length c], .slice B0 Q.length c0] w (fun v w' => v = .bool true ∧ SH w noBlocks [] w') := by
  refine does_enter2 Try.func9 rfl Try.ntmps9 rfl ?_
  have H := SH.start w noBlocks
  refine tr_seq (fun K1 hK1 => ?_)
  -- region 0: law.go:67
  refine tr_region ?_
  refine tr_box H rfl rfl rfl rfl rfl rfl ?_
  intro b1 w1 hb1 H
  refine tr_val (ov_assign rfl rfl) rfl rfl rfl ?_
  refine tr_nil (hK1 _ _ (TrC.keep [4, 2, 1] ?_))
  show TrC _ _ _ _ [(4, _), (2, _), (1, _)] _ _
  refine tr_seq (fun K2 hK2 => ?_)
  refine tr_seq (fun K3 hK3 => ?_)
  -- region 1: law.go:68
  refine tr_region ?_
  refine tr_val (ov_load_blkN H.get0 rfl (Try.isAgg78 _) (Try.sizeOf78 _) rfl rfl rfl) rfl rfl rfl ?_
  refine tr_call (light_c B c X now last _) rfl rfl rfl Try.call34 rfl rfl rfl ?_
  rintro _ w2 ⟨rfl, HC⟩
  have H := H.call0n HC
  refine tr_val (ov_not rfl rfl) rfl rfl rfl ?_
  refine tr_val (ov_move rfl rfl) rfl rfl rfl ?_
  refine tr_split (t := 15) rfl (fun s15 => ?_) (fun s15 => ?_)
  · skip
    refine tr_pass rfl rfl rfl ?_
    refine tr_pass rfl rfl rfl ?_
    refine tr_pass rfl rfl rfl ?_
    refine tr_val (ov_pick (vb := undef) rfl rfl rfl rfl) rfl rfl rfl ?_
    refine tr_nil (hK3 _ _ (TrC.keep [19, 4, 2, 1] ?_))
    show TrC _ _ _ _ [(19, _), (4, _), (2, _), (1, _)] _ _
    refine tr_cond_t rfl rfl ?_
    refine tr_seq (fun K4 hK4 => ?_)
    -- region 2: law.go:69
    refine tr_region ?_
    refine tr_call (lives13_c _) rfl rfl rfl Try.call29 rfl rfl rfl ?_
    rintro _ w3 ⟨rfl, HC⟩
    have H := H.call0n HC
    refine tr_val (ov_assign rfl rfl) rfl rfl rfl ?_
    refine tr_nil (hK4 _ _ (TrC.keep [4, 19, 2, 1] ?_))
    show TrC _ _ _ _ [(4, _), (19, _), (2, _), (1, _)] _ _
    refine tr_ret (post_ret1 (.inr rfl) rfl rfl ?_)
    exact ⟨rfl, H.drop0⟩
  · skip
    refine tr_val (ov_move rfl rfl) rfl rfl rfl ?_
    refine tr_val (ov_len rfl rfl Try.underlying68 rfl) rfl rfl rfl ?_
    refine tr_val (ov_gtr rfl rfl rfl) rfl rfl rfl ?_
    refine tr_val (ov_pick_f (va := undef) rfl rfl rfl rfl) rfl rfl rfl ?_
    refine tr_nil (hK3 _ _ (TrC.keep [19, 4, 2, 1] ?_))
    show TrC _ _ _ _ [(19, _), (4, _), (2, _), (1, _)] _ _
    refine tr_cond rfl (fun c19 => ?_) (fun c19 => ?_)
    · skip
      refine tr_seq (fun K5 hK5 => ?_)
      -- region 2: law.go:69
      refine tr_region ?_
      refine tr_call (lives13_c _) rfl rfl rfl Try.call29 rfl rfl rfl ?_
      rintro _ w4 ⟨rfl, HC⟩
      have H := H.call0n HC
      refine tr_val (ov_assign rfl rfl) rfl rfl rfl ?_
      refine tr_nil (hK5 _ _ (TrC.keep [4, 19, 2, 1] ?_))
      show TrC _ _ _ _ [(4, _), (19, _), (2, _), (1, _)] _ _
      refine tr_ret (post_ret1 (.inr rfl) rfl rfl ?_)
      exact ⟨rfl, H.drop0⟩
    · skip
      refine tr_skip (hK2 _ _ (TrC.keep [19, 4, 2, 1] ?_))
      show TrC _ _ _ _ [(19, _), (4, _), (2, _), (1, _)] _ _
      refine tr_seq (fun K6 hK6 => ?_)
      -- region 3: law.go:71
      refine tr_region ?_
      refine tr_val (ov_load_blkN H.get0 rfl (Try.isAgg78 _) (Try.sizeOf78 _) rfl rfl rfl) rfl rfl rfl ?_
      refine tr_call (Load_c B c X now last _ (H.rd0 hR) (by omega) h0 hs) rfl rfl rfl Try.call35 rfl rfl rfl ?_
      rintro _ w5 ⟨b, L0, rfl, hX0, HC⟩
      have H := H.call0r HC
      refine tr_val (ov_move rfl rfl) rfl rfl rfl ?_
      refine tr_val (ov_extract rfl rfl rfl) rfl rfl rfl ?_
      refine tr_val (ov_extract rfl rfl rfl) rfl rfl rfl ?_
      refine tr_val (ov_assign rfl rfl) rfl rfl rfl ?_
      refine tr_val (ov_assign rfl rfl) rfl rfl rfl ?_
      refine tr_nil (hK6 _ _ (TrC.keep [6, 5, 19, 4, 2, 1] ?_))
      show TrC _ _ _ _ [(6, _), (5, _), (19, _), (4, _), (2, _), (1, _)] _ _
      refine tr_seq (fun K7 hK7 => ?_)
      -- region 4: law.go:72
      refine tr_region ?_
      refine tr_val (ov_load_blkN H.get1 rfl (Try.isAgg78 _) (Try.sizeOf78 _) rfl rfl rfl) rfl rfl rfl ?_
      refine tr_call (Plain13_c B c X now last _ (H.rd0 hR) (by omega)) rfl rfl rfl Try.call36 rfl rfl rfl ?_
      rintro _ w6 ⟨A0, c9, rfl, HC⟩
      have H := H.call0r HC
      have hzl := zR_len X
      refine tr_alloc H rfl (Try.zeroValue85 _) rfl rfl rfl rfl ?_
      intro b2 w7 hb2 H
      (refine tr_storeW H.get0 rfl (Try.sizeOf85 _) rfl rfl rfl rfl rfl rfl rfl rfl ?_; intro w8 U; have H := H.upd0 U; clear U)
      refine tr_nil (hK7 _ _ (TrC.keep [7, 6, 5, 19, 4, 2, 1] ?_))
      show TrC _ _ _ _ [(7, _), (6, _), (5, _), (19, _), (4, _), (2, _), (1, _)] _ _
      refine tr_seq (fun K8 hK8 => ?_)
      refine tr_seq (fun K9 hK9 => ?_)
      -- region 5: law.go:73
      have hc9 := vec_len H.get1
      have H := H.upd1 (upd_rdr_of_vec H.get1 lenRThing (by decide))
      have H := H.top1
      refine tr_region ?_
      refine tr_val (ov_load_blkN H.get1 rfl (Try.isAgg85 _) (Try.sizeOf85 _) rfl rfl rfl) rfl rfl rfl ?_
      refine tr_call (SoundR_c A0 c9 (zR X) now last _ (rdr_rd H.get0) (by omega)) rfl rfl rfl Try.call37 rfl rfl rfl ?_
      rintro _ w9 ⟨rfl, HC⟩
      have H := H.call0n HC
      rw [zR_plain, sndB_true.mpr hs]
      refine tr_val (ov_notb rfl rfl) rfl rfl rfl ?_
      refine tr_nil (hK9 _ _ (TrC.keep [30, 7, 6, 5, 19, 4, 2, 1] ?_))
      show TrC _ _ _ _ [(30, _), (7, _), (6, _), (5, _), (19, _), (4, _), (2, _), (1, _)] _ _
      refine tr_condb rfl (fun c30 => ?_) (fun c30 => ?_)
      · cases c30
      · skip
        refine tr_skip (hK8 _ _ (TrC.keep [30, 7, 6, 5, 19, 4, 2, 1] ?_))
        show TrC _ _ _ _ [(30, _), (7, _), (6, _), (5, _), (19, _), (4, _), (2, _), (1, _)] _ _
        refine tr_seq (fun K10 hK10 => ?_)
        refine tr_seq (fun K11 hK11 => ?_)
        -- region 7: law.go:76
        refine tr_region ?_
        refine tr_val (ov_move rfl rfl) rfl rfl rfl ?_
        refine tr_val (ov_eql_nil rfl Try.underlying69 rfl rfl) rfl rfl rfl ?_
        refine tr_val (ov_move rfl rfl) rfl rfl rfl ?_
        refine tr_splitb (t := 42) rfl (fun s42 => ?_) (fun s42 => ?_)
        · cases s42
        · skip
          refine tr_val (ov_move rfl rfl) rfl rfl rfl ?_
          refine tr_val (ov_neq rfl rfl rfl) rfl rfl rfl ?_
          refine tr_val (ov_pick_f (va := undef) rfl rfl rfl rfl) rfl rfl rfl ?_
          refine tr_nil (hK11 _ _ (TrC.keep [45, 30, 7, 6, 5, 19, 4, 2, 1] ?_))
          show TrC _ _ _ _ [(45, _), (30, _), (7, _), (6, _), (5, _), (19, _), (4, _), (2, _), (1, _)] _ _
          refine tr_cond rfl (fun c45 => ?_) (fun c45 => ?_)
          · exact absurd rfl c45
          · skip
            refine tr_skip (hK10 _ _ (TrC.keep [45, 30, 7, 6, 5, 19, 4, 2, 1] ?_))
            show TrC _ _ _ _ [(45, _), (30, _), (7, _), (6, _), (5, _), (19, _), (4, _), (2, _), (1, _)] _ _
            refine tr_seq (fun K12 hK12 => ?_)
            refine tr_seq (fun K13 hK13 => ?_)
            -- region 9: law.go:79
            refine tr_region ?_
            refine tr_val (ov_move rfl rfl) rfl rfl rfl ?_
            refine tr_val (ov_len rfl rfl Try.underlying68 rfl) rfl rfl rfl ?_
            refine tr_val (ov_move rfl rfl) rfl rfl rfl ?_
            refine tr_nil (hK13 _ _ (TrC.keep [48, 47, 46, 45, 30, 7, 6, 5, 19, 4, 2, 1] ?_))
            show TrC _ _ _ _ [(48, _), (47, _), (46, _), (45, _), (30, _), (7, _), (6, _), (5, _), (19, _), (4, _), (2, _), (1, _)] _ _
            refine tr_block ?_
            refine tr_loop_ (X := Int × Int × Int × List Thing × Option Addr × Nat × List Res) [47, 46, 45, 30, 7, 6, 5, 19, 2, 1] (fun ⟨i, n, l, X', A1, c1, L⟩ => [(48, .int .i64 i)]) (fun ⟨i, n, l, X', A1, c1, L⟩ w' => 0 ≤ i ∧ i ≤ Q.length ∧ (zR X').length ≤ c1 ∧ UpT X' ∧ BookX b n l X' L ∧ SH w noBlocks [rdr A1 4 ((zR X').map encRThing), blk b2 85 [.int .i64 n, .int .u64 l, .slice A1 ((zR X')).length c1], pack L, blk b1 78 [.int .i64 now, .int .u64 last, .slice B (X).length c]] w') (fun ⟨i, n, l, X', A1, c1, L⟩ => (Q.length - i).toNat) (⟨0, now, last, X, A0, c9, L0⟩) (Sub.cons rfl (Sub.cons rfl (Sub.cons rfl (Sub.cons rfl (Sub.cons rfl (Sub.cons rfl (Sub.cons rfl (Sub.cons rfl (Sub.cons rfl (Sub.cons rfl (Sub.cons rfl Sub.nil))))))))))) (⟨by omega, by omega, hc9, snd_up hs.2.2.2, hX0, H⟩) ?_
            rintro ⟨i, n, l, X', A1, c1, L⟩ w10 ⟨hi0, hi1, hc1, hU, hX, H⟩ K14 hK14
            show TrC _ _ _ _ [(48, _), (47, _), (46, _), (45, _), (30, _), (7, _), (6, _), (5, _), (19, _), (2, _), (1, _)] _ _
            refine tr_seq (fun K15 hK15 => ?_)
            -- region 10: law.go:79
            refine tr_region ?_
            refine tr_val (ov_lss rfl rfl rfl) rfl rfl rfl ?_
            refine tr_nil (hK15 _ _ (TrC.keep [49, 48, 47, 46, 45, 30, 7, 6, 5, 19, 2, 1] ?_))
            show TrC _ _ _ _ [(49, _), (48, _), (47, _), (46, _), (45, _), (30, _), (7, _), (6, _), (5, _), (19, _), (2, _), (1, _)] _ _
            refine tr_seq (fun K16 hK16 => ?_)
            refine tr_cond rfl (fun c49 => ?_) (fun c49 => ?_)
            · skip
              refine tr_skip (hK16 _ _ (TrC.keep [49, 48, 47, 46, 45, 30, 7, 6, 5, 19, 2, 1] ?_))
              show TrC _ _ _ _ [(49, _), (48, _), (47, _), (46, _), (45, _), (30, _), (7, _), (6, _), (5, _), (19, _), (2, _), (1, _)] _ _
              refine tr_seq (fun K17 hK17 => ?_)
              refine tr_block ?_
              refine tr_seq (fun K18 hK18 => ?_)
              -- region 11: law.go:79
              refine tr_region ?_
              refine tr_val (ov_indexAddrR (H.rd0 hQ) rfl Try.underlying68 (Try.sizeOf74 _) rfl rfl (by omega) (by omega)) rfl rfl rfl ?_
              refine tr_val (ld_DOp (H.rd0 hQ) rfl (Try.isAgg74 _) (Try.sizeOf74 _) rfl (by omega) (by omega)) rfl rfl rfl ?_
              refine tr_alloc H rfl (Try.zeroValue74 _) rfl rfl rfl rfl ?_
              intro b3 w11 hb3 H
              (refine tr_storeW H.get0 rfl (Try.sizeOf74 _) rfl rfl rfl rfl rfl rfl rfl rfl ?_; intro w12 U; have H := H.upd0 U; clear U)
              refine tr_nil (hK18 _ _ (TrC.keep [9, 49, 48, 47, 46, 45, 30, 7, 6, 5, 19, 2, 1] ?_))
              show TrC _ _ _ _ [(9, _), (49, _), (48, _), (47, _), (46, _), (45, _), (30, _), (7, _), (6, _), (5, _), (19, _), (2, _), (1, _)] _ _
              refine tr_seq (fun K19 hK19 => ?_)
              -- region 12: law.go:80
              refine tr_region ?_
              refine tr_val (ov_move rfl rfl) rfl rfl rfl ?_
              refine tr_val (ov_load_blkN H.get2 rfl (Try.isAgg85 _) (Try.sizeOf85 _) rfl rfl rfl) rfl rfl rfl ?_
              refine tr_val (ov_load_blkN H.get0 rfl (Try.isAgg74 _) (Try.sizeOf74 _) rfl rfl rfl) rfl rfl rfl ?_
              refine tr_call (do13_c A1 c1 b n l X' L _ hX hU hc1 ((H.drop0.drop1 : SH _ _ [_, _, _] _).own_ [_, _] (rs := [_])) (gt Q i)) rfl rfl rfl Try.call38 rfl rfl rfl ?_
              rintro _ w13 ⟨A2, c2, rfl, hc2, L2, hX2, HC⟩
              have H := H.top1.top3.top1.call2 HC
              have hU2 := dX_up (now := n) (last := l) (q := gt Q i) hU
              obtain ⟨hids2, hdue2, hfew2, hnow2, hla2⟩ := bookX_of hX2
              have hzl2 := zR_len (dX n l X' (gt Q i))
              have hsl2 := sortT_len (dX n l X' (gt Q i))
              have hzs2 := zR_len (sortT (dX n l X' (gt Q i)))
              refine tr_val (ov_move rfl rfl) rfl rfl rfl ?_
              refine tr_val (ov_extract rfl rfl rfl) rfl rfl rfl ?_
              refine tr_val (ov_extract rfl rfl rfl) rfl rfl rfl ?_
              refine tr_alloc H rfl (Try.zeroValue85 _) rfl rfl rfl rfl ?_
              intro b4 w14 hb4 H
              (refine tr_storeW H.get0 rfl (Try.sizeOf85 _) rfl rfl rfl rfl rfl rfl rfl rfl ?_; intro w15 U; have H := H.upd0 U; clear U)
              refine tr_val (ov_assign rfl rfl) rfl rfl rfl ?_
              refine tr_nil (hK19 _ _ (TrC.keep [11, 10, 9, 49, 48, 47, 46, 45, 30, 7, 6, 5, 19, 2, 1] ?_))
              show TrC _ _ _ _ [(11, _), (10, _), (9, _), (49, _), (48, _), (47, _), (46, _), (45, _), (30, _), (7, _), (6, _), (5, _), (19, _), (2, _), (1, _)] _ _
              refine tr_seq (fun K20 hK20 => ?_)
              -- region 13: law.go:81
              refine tr_region ?_
              refine tr_val (ov_load_blkN H.get0 rfl (Try.isAgg85 _) (Try.sizeOf85 _) rfl rfl rfl) rfl rfl rfl ?_
              (refine tr_storeW H.get4 rfl (Try.sizeOf85 _) rfl rfl rfl rfl rfl rfl rfl rfl ?_; intro w16 U; have H := H.upd4 U; clear U)
              refine tr_nil (hK20 _ _ (TrC.keep [11, 10, 9, 49, 48, 47, 46, 45, 30, 7, 6, 5, 19, 2, 1] ?_))
              show TrC _ _ _ _ [(11, _), (10, _), (9, _), (49, _), (48, _), (47, _), (46, _), (45, _), (30, _), (7, _), (6, _), (5, _), (19, _), (2, _), (1, _)] _ _
              refine tr_seq (fun K21 hK21 => ?_)
              -- region 14: law.go:82
              refine tr_held (fun w' => (blk b2 85 [.int .i64 (dN n (gt Q i)), .int .u64 (dL l X' (gt Q i)), .slice A2 ((zR (dX n l X' (gt Q i)))).length c2]).holds w') mixed rfl H ?_
              intro w17 H
              refine th_take 0 rfl (by kernel_rfl) (by kernel_rfl) (by kernel_rfl) ((by exact H.get4)) (fun _ hS => ov_move rfl rfl) rfl rfl rfl ?_
              refine th_take 1 rfl (by kernel_rfl) (by kernel_rfl) (by kernel_rfl) ((by exact H.get4)) (fun _ hS => ov_notb rfl rfl) rfl rfl rfl ?_
              refine th_take 2 rfl (by kernel_rfl) (by kernel_rfl) (by kernel_rfl) ((by exact H.get4)) (fun _ hS => ov_move rfl rfl) rfl rfl rfl ?_
              refine th_splitb (t := 62) rfl (fun s62 => ?_) (fun s62 => ?_)
              · cases s62
              · skip
                refine th_take 3 rfl (by kernel_rfl) (by kernel_rfl) (by kernel_rfl) ((by exact H.get4)) (fun _ hS => ov_move rfl rfl) rfl rfl rfl ?_
                refine th_take 6 rfl (by kernel_rfl) (by kernel_rfl) (by kernel_rfl) ((by exact H.get4)) (fun _ hS => ov_load_blkN hS rfl (Try.isAgg85 _) (Try.sizeOf85 _) rfl rfl rfl) rfl rfl rfl ?_
                refine th_one 4 (by kernel_rfl) ?_
                refine tw_call (bState_c b (dN n (gt Q i)) (dL l X' (gt Q i)) (dX n l X' (gt Q i)) L2 _ hX2 H.get2) rfl rfl rfl rfl Try.call33 rfl rfl rfl ?_
                rintro _ w18 ⟨A5, c5, rfl, HC⟩
                have H := H.call0r HC
                refine ⟨(by exact H.get5), ?_⟩
                refine th_one 5 (by kernel_rfl) ?_
                refine tw_call (Plain13_c A5 c5 (sortT (dX n l X' (gt Q i))) (dN n (gt Q i)) (dL l X' (gt Q i)) _ (vec_rd H.get0 lenThing (by decide)) (by omega)) rfl rfl rfl rfl Try.call36 rfl rfl rfl ?_
                rintro _ w19 ⟨A6, c6, rfl, HC⟩
                have H := H.call0r HC
                refine ⟨(by exact H.get6), ?_⟩
                refine th_one 7 (by kernel_rfl) ?_
                refine tw_call (Same13_c A6 c6 (zR (sortT (dX n l X' (gt Q i)))) (dN n (gt Q i)) (dL l X' (gt Q i)) A2 c2 (zR (dX n l X' (gt Q i))) (dN n (gt Q i)) (dL l X' (gt Q i)) _ (vec_rd H.get0 lenRThing (by decide)) (rdr_rd H.get3) (by omega)) rfl rfl rfl rfl Try.call39 rfl rfl rfl ?_
                rintro _ w20 ⟨rfl, HC⟩
                have H := H.call0n HC
                refine ⟨(by exact H.get6), ?_⟩
                refine th_take 8 rfl (by kernel_rfl) (by kernel_rfl) (by kernel_rfl) ((by exact H.get6)) (fun _ hS => ov_not rfl rfl) rfl rfl rfl ?_
                refine th_take 9 rfl (by kernel_rfl) (by kernel_rfl) (by kernel_rfl) ((by exact H.get6)) (fun _ hS => ov_pick_f (va := undef) rfl rfl rfl rfl) rfl rfl rfl ?_
                refine th_done (by kernel_rfl) ?_
                refine hK21 _ _ (TrC.keep [69, 10, 9, 49, 48, 47, 46, 45, 30, 7, 6, 5, 19, 2, 1] ?_)
                show TrC _ _ _ _ [(69, _), (10, _), (9, _), (49, _), (48, _), (47, _), (46, _), (45, _), (30, _), (7, _), (6, _), (5, _), (19, _), (2, _), (1, _)] _ _
                refine tr_cond rfl (fun c69 => ?_) (fun c69 => ?_)
                · exact (c69 ⟨rfl, rfl, by rw [sort_up hids2 hU2]⟩).elim
                · skip
                  refine tr_skip (hK17 _ _ (TrC.keep [69, 10, 9, 49, 48, 47, 46, 45, 30, 7, 6, 5, 19, 2, 1] ?_))
                  show TrC _ _ _ _ [(69, _), (10, _), (9, _), (49, _), (48, _), (47, _), (46, _), (45, _), (30, _), (7, _), (6, _), (5, _), (19, _), (2, _), (1, _)] _ _
                  -- region 16: law.go:79
                  refine tr_region ?_
                  refine tr_val (ov_add rfl rfl rfl (w64 (by omega))) rfl rfl rfl ?_
                  refine tr_val (ov_move rfl rfl) rfl rfl rfl ?_
                  skip
                  exact tr_nil (hK14 (⟨i + 1, (dN n (gt Q i)), (dL l X' (gt Q i)), (dX n l X' (gt Q i)), A2, c2, L2⟩) _ _ (⟨by omega, by omega, hc2, hU2, hX2, H.drop0.drop0.drop0.drop2.top2.top1⟩) (by (dsimp only; omega)) (Sub.cons rfl (Sub.cons rfl (Sub.cons rfl (Sub.cons rfl (Sub.cons rfl (Sub.cons rfl (Sub.cons rfl (Sub.cons rfl (Sub.cons rfl (Sub.cons rfl (Sub.cons rfl Sub.nil))))))))))))
            · skip
              refine tr_exit (hK12 _ _ (TrC.keep [49, 48, 47, 46, 45, 30, 7, 6, 5, 19, 2, 1] ?_))
              show TrC _ _ _ _ [(49, _), (48, _), (47, _), (46, _), (45, _), (30, _), (7, _), (6, _), (5, _), (19, _), (2, _), (1, _)] _ _
              refine tr_seq (fun K22 hK22 => ?_)
              -- region 17: law.go:86
              refine tr_region ?_
              refine tr_call (lives13_c _) rfl rfl rfl Try.call29 rfl rfl rfl ?_
              rintro _ w21 ⟨rfl, HC⟩
              have H := H.call0n HC
              refine tr_val (ov_assign rfl rfl) rfl rfl rfl ?_
              refine tr_nil (hK22 _ _ (TrC.keep [4, 49, 48, 47, 46, 45, 30, 7, 6, 5, 19, 2, 1] ?_))
              show TrC _ _ _ _ [(4, _), (49, _), (48, _), (47, _), (46, _), (45, _), (30, _), (7, _), (6, _), (5, _), (19, _), (2, _), (1, _)] _ _
              refine tr_ret (post_ret1 (.inr rfl) rfl rfl ?_)
              exact ⟨rfl, H.drop0.drop0.drop0.drop0⟩

theorem DeadlinePlays_c (B : Option Addr) (c : Nat) (X : List Thing) (now last : Int) (B0 : Option Addr) (c0 : Nat) (Q : List DOp) (w : World) (hR : Rd w B 3 (X.map encThing)) (hQ : Rd w B0 3 (Q.map encDOp)) (h0 : 0 ≤ last) : Does Try.prog 9 #[.agg #[.int .i64 now, .int .u64 last, .slice B (X).length c], .slice B0 Q.length c0] w (fun v w' => v = .bool true ∧ SH w noBlocks [] w') := by
  by_cases hs : sndP now last X
  · exact DeadlinePlays_s B c X now last B0 c0 Q w hR hQ h0 hs
  · exact DeadlinePlays_n B c X now last B0 c0 Q w hR hQ h0 hs

end Go.Proofs.Ytblipnjjgbggiaa
