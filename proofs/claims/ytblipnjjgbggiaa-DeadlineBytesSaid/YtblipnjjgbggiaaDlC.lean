/- Contracts of wheel.Wheel: Sound, Load, Clone. Conditions: none. -/
import Derived.Test.YtblipnjjgbggiaaSnd
namespace Go.Proofs.Ytblipnjjgbggiaa
open Go Go.RowKit
set_option linter.unusedVariables false
set_option linter.unusedSimpArgs false

/-! curfew/deadline.Sound$1 -/
set_option maxRecDepth 20000 in
theorem met_c (m : Nat) (E : List (Int × Bool × Nat)) (ck : Nat) (n : Int) (w : World) (hT : AllT E) (hO : (mapR m .u64 Value.bool E ck).holds w) : Does Try.prog 77 #[.map (some m), .int .u64 n] w (fun v w' => v = .bool (mfind n E).isSome ∧ SH w (mapR m .u64 Value.bool E ck).foot [mapR m .u64 Value.bool (mset n true ck E) (msetC n E ck)] w') := by
  refine does_enter2 Try.func77 rfl Try.ntmps77 rfl ?_
  have H := SH.own1 hO
  refine tr_seq (fun K1 hK1 => ?_)
  -- region 0: deadline.go:35
  refine tr_region ?_
  refine tr_val (ov_assign rfl rfl) rfl rfl rfl ?_
  refine tr_nil (hK1 _ _ (TrC.keep [4, 0, 1] ?_))
  show TrC _ _ _ _ [(4, _), (0, _), (1, _)] _ _
  refine tr_seq (fun K2 hK2 => ?_)
  -- region 1: deadline.go:36
  refine tr_region ?_
  refine tr_val (ov_move rfl rfl) rfl rfl rfl ?_
  refine tr_val (ov_move rfl rfl) rfl rfl rfl ?_
  refine tr_val (ov_eq (ov_lookup1 H.get0 rfl Try.underlying72 Try.underlying28 (Try.zeroValue4 _) rfl rfl) (met_val hT n)) rfl rfl rfl ?_
  refine tr_val (ov_assign rfl rfl) rfl rfl rfl ?_
  refine tr_nil (hK2 _ _ (TrC.keep [5, 4, 0, 1] ?_))
  show TrC _ _ _ _ [(5, _), (4, _), (0, _), (1, _)] _ _
  refine tr_seq (fun K3 hK3 => ?_)
  -- region 2: deadline.go:37
  refine tr_region ?_
  refine tr_val (ov_move rfl rfl) rfl rfl rfl ?_
  refine tr_val (ov_move rfl rfl) rfl rfl rfl ?_
  refine tr_mapSet (u := true) H.get0 rfl Try.underlying72 Try.underlying28 rfl rfl rfl rfl rfl ?_
  intro w9 U; have H := H.upd0 U; clear U
  refine tr_nil (hK3 _ _ (TrC.keep [5, 4, 0, 1] ?_))
  show TrC _ _ _ _ [(5, _), (4, _), (0, _), (1, _)] _ _
  refine tr_seq (fun K4 hK4 => ?_)
  -- region 3: deadline.go:38
  refine tr_region ?_
  refine tr_val (ov_move rfl rfl) rfl rfl rfl ?_
  refine tr_val (ov_assign rfl rfl) rfl rfl rfl ?_
  refine tr_nil (hK4 _ _ (TrC.keep [4, 0, 1] ?_))
  show TrC _ _ _ _ [(4, _), (0, _), (1, _)] _ _
  refine tr_ret (post_ret1 (.inr rfl) rfl rfl ?_)
  exact ⟨rfl, H⟩

/-! curfew/deadline.Sound -/
set_option maxRecDepth 20000 in
theorem Sound_c (B : Option Addr) (c : Nat) (X : List Thing) (now last : Int) (w : World) (hR : Rd w B 3 (X.map encThing)) (hl : X.length ≤ 60000) : Does Try.prog 42 #[.agg #[.int .i64 now, .int .u64 last, .slice B (X).length c]] w (fun v w' => v = .bool (sndB now last X) ∧ SH w noBlocks [] w') := by
  refine does_enter1 Try.func42 rfl Try.ntmps42 rfl ?_
  have H := SH.start w noBlocks
  refine tr_seq (fun K1 hK1 => ?_)
  -- region 0: deadline.go:30
  refine tr_region ?_
  refine tr_box H rfl rfl rfl rfl rfl rfl ?_
  intro b1 w1 hb1 H
  refine tr_val (ov_assign rfl rfl) rfl rfl rfl ?_
  refine tr_nil (hK1 _ _ (TrC.keep [2, 1] ?_))
  show TrC _ _ _ _ [(2, _), (1, _)] _ _
  refine tr_seq (fun K2 hK2 => ?_)
  refine tr_seq (fun K3 hK3 => ?_)
  -- region 1: deadline.go:31
  refine tr_cut [2, 1] [(22, .bool (decide (¬ (0 ≤ now ∧ now ≤ 1125899906842624) ∨ 1152921504606846976 < last ∨ 256 < (X.length : Int))))] (fun w' => SH w noBlocks [blk b1 78 [.int .i64 now, .int .u64 last, .slice B (X).length c]] w') (fun K4 hK4 => ?_) (fun w2 H => ?_)
  · skip
    refine tr_val (ov_fieldAddr rfl Try.underlying78 rfl (Try.sizeOf2 _) (by decide) rfl) rfl rfl rfl ?_
    refine tr_val (ov_load_blk H.get0 rfl (Try.isAgg2 _) rfl rfl rfl) rfl rfl rfl ?_
    refine tr_call (instD_c now _) rfl rfl rfl Try.call72 rfl rfl rfl ?_
    rintro _ w3 ⟨rfl, HC⟩
    have H := H.call0n HC
    refine tr_val (ov_not rfl rfl) rfl rfl rfl ?_
    refine tr_val (ov_move rfl rfl) rfl rfl rfl ?_
    refine tr_split (t := 12) rfl (fun s12 => ?_) (fun s12 => ?_)
    · skip
      refine tr_pass rfl rfl rfl ?_
      refine tr_pass rfl rfl rfl ?_
      refine tr_pass rfl rfl rfl ?_
      refine tr_val (ov_pick (vb := undef) rfl rfl rfl rfl) rfl rfl rfl ?_
      refine tr_val (ov_move rfl rfl) rfl rfl rfl ?_
      refine tr_pass rfl rfl rfl ?_
      refine tr_pass rfl rfl rfl ?_
      refine tr_pass rfl rfl rfl ?_
      refine tr_pass rfl rfl rfl ?_
      refine tr_val (ov_pick (vb := undef) rfl rfl rfl rfl) rfl rfl rfl ?_
      exact tr_nil (hK4 _ _ (Sub.consE rfl (congrArg Value.bool (by exact eqT (by skip; omega))) (Sub.cons rfl (Sub.cons rfl Sub.nil))) (H))
    · skip
      refine tr_val (ov_fieldAddr rfl Try.underlying78 rfl (Try.sizeOf28 _) (by decide) rfl) rfl rfl rfl ?_
      refine tr_val (ov_load_blk H.get0 rfl (Try.isAgg28 _) rfl rfl rfl) rfl rfl rfl ?_
      refine tr_val (ov_gtr rfl rfl rfl) rfl rfl rfl ?_
      refine tr_val (ov_pick_f (va := undef) rfl rfl rfl rfl) rfl rfl rfl ?_
      refine tr_val (ov_move rfl rfl) rfl rfl rfl ?_
      refine tr_split (t := 17) rfl (fun s17 => ?_) (fun s17 => ?_)
      · skip
        refine tr_pass rfl rfl rfl ?_
        refine tr_pass rfl rfl rfl ?_
        refine tr_pass rfl rfl rfl ?_
        refine tr_pass rfl rfl rfl ?_
        refine tr_val (ov_pick (vb := undef) rfl rfl rfl rfl) rfl rfl rfl ?_
        exact tr_nil (hK4 _ _ (Sub.consE rfl (congrArg Value.bool (by exact eqT (by skip; omega))) (Sub.cons rfl (Sub.cons rfl Sub.nil))) (H))
      · skip
        refine tr_val (ov_fieldAddr rfl Try.underlying78 rfl (Try.sizeOf32 _) (by decide) rfl) rfl rfl rfl ?_
        refine tr_val (ov_load_blk H.get0 rfl (Try.isAgg32 _) rfl rfl rfl) rfl rfl rfl ?_
        refine tr_val (ov_len rfl rfl Try.underlying32 rfl) rfl rfl rfl ?_
        refine tr_val (ov_gtr rfl rfl rfl) rfl rfl rfl ?_
        refine tr_val (ov_pick_f (va := undef) rfl rfl rfl rfl) rfl rfl rfl ?_
        exact tr_nil (hK4 _ _ (Sub.consE rfl (congrArg Value.bool (by exact eqI (by skip; omega))) (Sub.cons rfl (Sub.cons rfl Sub.nil))) (H))
  · skip
    refine hK3 _ _ (TrC.keep [22, 2, 1] ?_)
    show TrC _ _ _ _ [(22, _), (2, _), (1, _)] _ _
    refine tr_cond rfl (fun c22 => ?_) (fun c22 => ?_)
    · skip
      refine tr_seq (fun K5 hK5 => ?_)
      -- region 2: deadline.go:32
      refine tr_region ?_
      refine tr_val (ov_assign rfl rfl) rfl rfl rfl ?_
      refine tr_nil (hK5 _ _ (TrC.keep [2, 22, 1] ?_))
      show TrC _ _ _ _ [(2, _), (22, _), (1, _)] _ _
      refine tr_ret (post_ret1 (.inr rfl) rfl rfl ?_)
      (exact ⟨congrArg Value.bool (sndB_false (fun q => by have := q.1; have := q.2.1; have := q.2.2.1; omega)).symm, H.drop0⟩)
    · skip
      refine tr_skip (hK2 _ _ (TrC.keep [22, 2, 1] ?_))
      show TrC _ _ _ _ [(22, _), (2, _), (1, _)] _ _
      refine tr_seq (fun K6 hK6 => ?_)
      -- region 3: deadline.go:34
      refine tr_region ?_
      refine tr_makeMap .u64 Value.bool H rfl rfl rfl rfl ?_
      intro m1 w1m H
      refine tr_makeMap .u64 Value.bool H rfl rfl rfl rfl ?_
      intro m2 w2m H
      refine tr_val (ov_assign rfl rfl) rfl rfl rfl ?_
      refine tr_val (ov_assign rfl rfl) rfl rfl rfl ?_
      refine tr_nil (hK6 _ _ (TrC.keep [4, 3, 22, 2, 1] ?_))
      show TrC _ _ _ _ [(4, _), (3, _), (22, _), (2, _), (1, _)] _ _
      refine tr_seq (fun K7 hK7 => ?_)
      -- region 4: deadline.go:35
      refine tr_region ?_
      refine tr_val (ov_assign rfl rfl) rfl rfl rfl ?_
      refine tr_nil (hK7 _ _ (TrC.keep [5, 4, 3, 22, 2, 1] ?_))
      show TrC _ _ _ _ [(5, _), (4, _), (3, _), (22, _), (2, _), (1, _)] _ _
      refine tr_seq (fun K8 hK8 => ?_)
      refine tr_seq (fun K9 hK9 => ?_)
      -- region 5: deadline.go:40
      refine tr_region ?_
      refine tr_val (ov_fieldAddr rfl Try.underlying78 rfl (Try.sizeOf32 _) (by decide) rfl) rfl rfl rfl ?_
      refine tr_val (ov_load_blk H.get2 rfl (Try.isAgg32 _) rfl rfl rfl) rfl rfl rfl ?_
      refine tr_val (ov_len rfl rfl Try.underlying32 rfl) rfl rfl rfl ?_
      refine tr_val (ov_move rfl rfl) rfl rfl rfl ?_
      refine tr_nil (hK9 _ _ (TrC.keep [28, 27, 26, 5, 4, 3, 22, 2, 1] ?_))
      show TrC _ _ _ _ [(28, _), (27, _), (26, _), (5, _), (4, _), (3, _), (22, _), (2, _), (1, _)] _ _
      refine tr_block ?_
      refine tr_loop_ (X := Int × List (Int × Bool × Nat) × List (Int × Bool × Nat) × Nat × Nat) [27, 26, 5, 4, 3, 22, 1] (fun ⟨i, E1, E2, k1, k2⟩ => [(28, .int .i64 i)]) (fun ⟨i, E1, E2, k1, k2⟩ w' => 0 ≤ i ∧ i ≤ X.length ∧ SndT last (X.take i.toNat) ∧ AllT E1 ∧ AllT E2 ∧ E1.map (·.1) = (X.take i.toNat).map (·.id) ∧ E2.map (·.1) = (X.take i.toNat).map (·.gen) ∧ SH w noBlocks [mapR m2 .u64 Value.bool E2 k2, mapR m1 .u64 Value.bool E1 k1, blk b1 78 [.int .i64 now, .int .u64 last, .slice B (X).length c]] w') (fun ⟨i, E1, E2, k1, k2⟩ => (X.length - i).toNat) (⟨0, [], [], 0, 0⟩) (Sub.cons rfl (Sub.cons rfl (Sub.cons rfl (Sub.cons rfl (Sub.cons rfl (Sub.cons rfl (Sub.cons rfl (Sub.cons rfl Sub.nil)))))))) (⟨by omega, by omega, SndT.nil, fun e h => (by cases h), fun e h => (by cases h), rfl, rfl, H⟩) ?_
      rintro ⟨i, E1, E2, k1, k2⟩ w4 ⟨hi0, hi1, hs, hT1, hT2, hk1, hk2, H⟩ K10 hK10
      show TrC _ _ _ _ [(28, _), (27, _), (26, _), (5, _), (4, _), (3, _), (22, _), (1, _)] _ _
      refine tr_seq (fun K11 hK11 => ?_)
      -- region 6: deadline.go:40
      refine tr_region ?_
      refine tr_val (ov_lss rfl rfl rfl) rfl rfl rfl ?_
      refine tr_nil (hK11 _ _ (TrC.keep [29, 28, 27, 26, 5, 4, 3, 22, 1] ?_))
      show TrC _ _ _ _ [(29, _), (28, _), (27, _), (26, _), (5, _), (4, _), (3, _), (22, _), (1, _)] _ _
      refine tr_seq (fun K12 hK12 => ?_)
      refine tr_cond rfl (fun c29 => ?_) (fun c29 => ?_)
      · skip
        refine tr_skip (hK12 _ _ (TrC.keep [29, 28, 27, 26, 5, 4, 3, 22, 1] ?_))
        show TrC _ _ _ _ [(29, _), (28, _), (27, _), (26, _), (5, _), (4, _), (3, _), (22, _), (1, _)] _ _
        refine tr_seq (fun K13 hK13 => ?_)
        refine tr_block ?_
        refine tr_seq (fun K14 hK14 => ?_)
        -- region 7: deadline.go:40
        refine tr_region ?_
        refine tr_val (ov_move rfl rfl) rfl rfl rfl ?_
        refine tr_val (ov_indexAddrR (H.rd0 hR) rfl Try.underlying32 (Try.sizeOf30 _) rfl rfl (by omega) (by omega)) rfl rfl rfl ?_
        refine tr_val (ld_Thing (H.rd0 hR) rfl (Try.isAgg30 _) (Try.sizeOf30 _) rfl (by omega) (by omega)) rfl rfl rfl ?_
        refine tr_alloc H rfl (Try.zeroValue30 _) rfl rfl rfl rfl ?_
        intro b4 w5 hb4 H
        refine tr_val (ov_assign rfl rfl) rfl rfl rfl ?_
        (refine tr_storeW H.get0 rfl (Try.sizeOf30 _) rfl rfl rfl rfl rfl rfl rfl rfl ?_; intro w6 U; have H := H.upd0 U; clear U)
        refine tr_nil (hK14 _ _ (TrC.keep [6, 7, 29, 28, 27, 26, 5, 4, 3, 22, 1] ?_))
        show TrC _ _ _ _ [(6, _), (7, _), (29, _), (28, _), (27, _), (26, _), (5, _), (4, _), (3, _), (22, _), (1, _)] _ _
        refine tr_seq (fun K15 hK15 => ?_)
        refine tr_seq (fun K16 hK16 => ?_)
        -- region 8: deadline.go:41
        refine tr_region ?_
        refine tr_val (ov_fieldAddr rfl Try.underlying30 rfl (Try.sizeOf28 _) (by decide) rfl) rfl rfl rfl ?_
        refine tr_val (ov_load_blk H.get0 rfl (Try.isAgg28 _) rfl rfl rfl) rfl rfl rfl ?_
        refine tr_val (ov_lss rfl rfl rfl) rfl rfl rfl ?_
        refine tr_val (ov_move rfl rfl) rfl rfl rfl ?_
        refine tr_split (t := 36) rfl (fun s36 => ?_) (fun s36 => ?_)
        · skip
          refine tr_pass rfl rfl rfl ?_
          refine tr_pass rfl rfl rfl ?_
          refine tr_pass rfl rfl rfl ?_
          refine tr_pass rfl rfl rfl ?_
          refine tr_pass rfl rfl rfl ?_
          refine tr_val (ov_pick (vb := undef) rfl rfl rfl rfl) rfl rfl rfl ?_
          refine tr_val (ov_move rfl rfl) rfl rfl rfl ?_
          refine tr_pass rfl rfl rfl ?_
          refine tr_pass rfl rfl rfl ?_
          refine tr_pass rfl rfl rfl ?_
          refine tr_pass rfl rfl rfl ?_
          refine tr_val (ov_pick (vb := undef) rfl rfl rfl rfl) rfl rfl rfl ?_
          refine tr_val (ov_move rfl rfl) rfl rfl rfl ?_
          refine tr_pass rfl rfl rfl ?_
          refine tr_pass rfl rfl rfl ?_
          refine tr_pass rfl rfl rfl ?_
          refine tr_pass rfl rfl rfl ?_
          refine tr_pass rfl rfl rfl ?_
          refine tr_val (ov_pick (vb := undef) rfl rfl rfl rfl) rfl rfl rfl ?_
          refine tr_val (ov_move rfl rfl) rfl rfl rfl ?_
          refine tr_pass rfl rfl rfl ?_
          refine tr_pass rfl rfl rfl ?_
          refine tr_pass rfl rfl rfl ?_
          refine tr_pass rfl rfl rfl ?_
          refine tr_pass rfl rfl rfl ?_
          refine tr_val (ov_pick (vb := undef) rfl rfl rfl rfl) rfl rfl rfl ?_
          refine tr_nil (hK16 _ _ (TrC.keep [62, 6, 7, 29, 28, 27, 26, 5, 4, 3, 22, 1] ?_))
          show TrC _ _ _ _ [(62, _), (6, _), (7, _), (29, _), (28, _), (27, _), (26, _), (5, _), (4, _), (3, _), (22, _), (1, _)] _ _
          refine tr_cond_t rfl rfl ?_
          refine tr_seq (fun K17 hK17 => ?_)
          -- region 9: deadline.go:42
          refine tr_region ?_
          refine tr_val (ov_assign rfl rfl) rfl rfl rfl ?_
          refine tr_nil (hK17 _ _ (TrC.keep [2, 62, 6, 7, 29, 28, 27, 26, 5, 4, 3, 22, 1] ?_))
          show TrC _ _ _ _ [(2, _), (62, _), (6, _), (7, _), (29, _), (28, _), (27, _), (26, _), (5, _), (4, _), (3, _), (22, _), (1, _)] _ _
          refine tr_ret (post_ret1 (.inr rfl) rfl rfl ?_)
          (exact ⟨congrArg Value.bool (snd_not hi0 (by omega) (fun q1 q2 q3 q4 => by have q1' := q1; unfold okT at q1'; omega)), by exact H.drop0.drop0.drop0.drop0⟩)
        · skip
          refine tr_val (ov_fieldAddr rfl Try.underlying30 rfl (Try.sizeOf28 _) (by decide) rfl) rfl rfl rfl ?_
          refine tr_val (ov_load_blk H.get0 rfl (Try.isAgg28 _) rfl rfl rfl) rfl rfl rfl ?_
          refine tr_val (ov_fieldAddr rfl Try.underlying78 rfl (Try.sizeOf28 _) (by decide) rfl) rfl rfl rfl ?_
          refine tr_val (ov_load_blk H.get3 rfl (Try.isAgg28 _) rfl rfl rfl) rfl rfl rfl ?_
          refine tr_val (ov_gtr rfl rfl rfl) rfl rfl rfl ?_
          refine tr_val (ov_pick_f (va := undef) rfl rfl rfl rfl) rfl rfl rfl ?_
          refine tr_val (ov_move rfl rfl) rfl rfl rfl ?_
          refine tr_split (t := 43) rfl (fun s43 => ?_) (fun s43 => ?_)
          · skip
            refine tr_pass rfl rfl rfl ?_
            refine tr_pass rfl rfl rfl ?_
            refine tr_pass rfl rfl rfl ?_
            refine tr_pass rfl rfl rfl ?_
            refine tr_val (ov_pick (vb := undef) rfl rfl rfl rfl) rfl rfl rfl ?_
            refine tr_val (ov_move rfl rfl) rfl rfl rfl ?_
            refine tr_pass rfl rfl rfl ?_
            refine tr_pass rfl rfl rfl ?_
            refine tr_pass rfl rfl rfl ?_
            refine tr_pass rfl rfl rfl ?_
            refine tr_pass rfl rfl rfl ?_
            refine tr_val (ov_pick (vb := undef) rfl rfl rfl rfl) rfl rfl rfl ?_
            refine tr_val (ov_move rfl rfl) rfl rfl rfl ?_
            refine tr_pass rfl rfl rfl ?_
            refine tr_pass rfl rfl rfl ?_
            refine tr_pass rfl rfl rfl ?_
            refine tr_pass rfl rfl rfl ?_
            refine tr_pass rfl rfl rfl ?_
            refine tr_val (ov_pick (vb := undef) rfl rfl rfl rfl) rfl rfl rfl ?_
            refine tr_nil (hK16 _ _ (TrC.keep [62, 6, 7, 29, 28, 27, 26, 5, 4, 3, 22, 1] ?_))
            show TrC _ _ _ _ [(62, _), (6, _), (7, _), (29, _), (28, _), (27, _), (26, _), (5, _), (4, _), (3, _), (22, _), (1, _)] _ _
            refine tr_cond_t rfl rfl ?_
            refine tr_seq (fun K18 hK18 => ?_)
            -- region 9: deadline.go:42
            refine tr_region ?_
            refine tr_val (ov_assign rfl rfl) rfl rfl rfl ?_
            refine tr_nil (hK18 _ _ (TrC.keep [2, 62, 6, 7, 29, 28, 27, 26, 5, 4, 3, 22, 1] ?_))
            show TrC _ _ _ _ [(2, _), (62, _), (6, _), (7, _), (29, _), (28, _), (27, _), (26, _), (5, _), (4, _), (3, _), (22, _), (1, _)] _ _
            refine tr_ret (post_ret1 (.inr rfl) rfl rfl ?_)
            (exact ⟨congrArg Value.bool (snd_not hi0 (by omega) (fun q1 q2 q3 q4 => by have q1' := q1; unfold okT at q1'; omega)), by exact H.drop0.drop0.drop0.drop0⟩)
          · skip
            refine tr_val (ov_fieldAddr rfl Try.underlying30 rfl (Try.sizeOf2 _) (by decide) rfl) rfl rfl rfl ?_
            refine tr_val (ov_load_blk H.get0 rfl (Try.isAgg2 _) rfl rfl rfl) rfl rfl rfl ?_
            refine tr_call (instD_c (gt X i).due _) rfl rfl rfl Try.call72 rfl rfl rfl ?_
            rintro _ w7 ⟨rfl, HC⟩
            have H := H.call0n HC
            refine tr_val (ov_not rfl rfl) rfl rfl rfl ?_
            refine tr_val (ov_pick_f (va := undef) rfl rfl rfl rfl) rfl rfl rfl ?_
            refine tr_val (ov_move rfl rfl) rfl rfl rfl ?_
            refine tr_split (t := 49) rfl (fun s49 => ?_) (fun s49 => ?_)
            · skip
              refine tr_pass rfl rfl rfl ?_
              refine tr_pass rfl rfl rfl ?_
              refine tr_pass rfl rfl rfl ?_
              refine tr_pass rfl rfl rfl ?_
              refine tr_pass rfl rfl rfl ?_
              refine tr_val (ov_pick (vb := undef) rfl rfl rfl rfl) rfl rfl rfl ?_
              refine tr_val (ov_move rfl rfl) rfl rfl rfl ?_
              refine tr_pass rfl rfl rfl ?_
              refine tr_pass rfl rfl rfl ?_
              refine tr_pass rfl rfl rfl ?_
              refine tr_pass rfl rfl rfl ?_
              refine tr_pass rfl rfl rfl ?_
              refine tr_val (ov_pick (vb := undef) rfl rfl rfl rfl) rfl rfl rfl ?_
              refine tr_nil (hK16 _ _ (TrC.keep [62, 6, 7, 29, 28, 27, 26, 5, 4, 3, 22, 1] ?_))
              show TrC _ _ _ _ [(62, _), (6, _), (7, _), (29, _), (28, _), (27, _), (26, _), (5, _), (4, _), (3, _), (22, _), (1, _)] _ _
              refine tr_cond_t rfl rfl ?_
              refine tr_seq (fun K19 hK19 => ?_)
              -- region 9: deadline.go:42
              refine tr_region ?_
              refine tr_val (ov_assign rfl rfl) rfl rfl rfl ?_
              refine tr_nil (hK19 _ _ (TrC.keep [2, 62, 6, 7, 29, 28, 27, 26, 5, 4, 3, 22, 1] ?_))
              show TrC _ _ _ _ [(2, _), (62, _), (6, _), (7, _), (29, _), (28, _), (27, _), (26, _), (5, _), (4, _), (3, _), (22, _), (1, _)] _ _
              refine tr_ret (post_ret1 (.inr rfl) rfl rfl ?_)
              (exact ⟨congrArg Value.bool (snd_not hi0 (by omega) (fun q1 q2 q3 q4 => by have q1' := q1; unfold okT at q1'; omega)), by exact H.drop0.drop0.drop0.drop0⟩)
            · skip
              refine tr_val (ov_move rfl rfl) rfl rfl rfl ?_
              refine tr_val (ov_move rfl rfl) rfl rfl rfl ?_
              refine tr_val (ov_fieldAddr rfl Try.underlying30 rfl (Try.sizeOf28 _) (by decide) rfl) rfl rfl rfl ?_
              refine tr_val (ov_load_blk H.get0 rfl (Try.isAgg28 _) rfl rfl rfl) rfl rfl rfl ?_
              refine tr_call (met_c m1 E1 k1 (gt X i).id _ hT1 H.get2) rfl rfl rfl Try.call77 rfl rfl rfl ?_
              rintro _ w8 ⟨rfl, HC⟩
              have H := H.top2.call1 HC
              refine tr_val (ov_pick_f (va := undef) rfl rfl rfl rfl) rfl rfl rfl ?_
              refine tr_val (ov_move rfl rfl) rfl rfl rfl ?_
              refine tr_splitb (t := 56) rfl (fun s56 => ?_) (fun s56 => ?_)
              · skip
                refine tr_pass rfl rfl rfl ?_
                refine tr_pass rfl rfl rfl ?_
                refine tr_pass rfl rfl rfl ?_
                refine tr_pass rfl rfl rfl ?_
                refine tr_pass rfl rfl rfl ?_
                refine tr_val (ov_pick (vb := undef) rfl rfl rfl rfl) rfl rfl rfl ?_
                refine tr_nil (hK16 _ _ (TrC.keep [62, 6, 7, 29, 28, 27, 26, 5, 4, 3, 22, 1] ?_))
                show TrC _ _ _ _ [(62, _), (6, _), (7, _), (29, _), (28, _), (27, _), (26, _), (5, _), (4, _), (3, _), (22, _), (1, _)] _ _
                refine tr_cond_t rfl rfl ?_
                refine tr_seq (fun K20 hK20 => ?_)
                -- region 9: deadline.go:42
                refine tr_region ?_
                refine tr_val (ov_assign rfl rfl) rfl rfl rfl ?_
                refine tr_nil (hK20 _ _ (TrC.keep [2, 62, 6, 7, 29, 28, 27, 26, 5, 4, 3, 22, 1] ?_))
                show TrC _ _ _ _ [(2, _), (62, _), (6, _), (7, _), (29, _), (28, _), (27, _), (26, _), (5, _), (4, _), (3, _), (22, _), (1, _)] _ _
                refine tr_ret (post_ret1 (.inr rfl) rfl rfl ?_)
                (exact ⟨congrArg Value.bool (snd_not hi0 (by omega) (fun q1 q2 q3 q4 => by have q1' := q1; unfold okT at q1'; exact q3 (by rw [← hk1]; exact mfind_mem.mp s56))), by exact H.drop0.drop0.drop0.drop0⟩)
              · skip
                refine tr_val (ov_move rfl rfl) rfl rfl rfl ?_
                refine tr_val (ov_move rfl rfl) rfl rfl rfl ?_
                refine tr_val (ov_fieldAddr rfl Try.underlying30 rfl (Try.sizeOf28 _) (by decide) rfl) rfl rfl rfl ?_
                refine tr_val (ov_load_blk H.get1 rfl (Try.isAgg28 _) rfl rfl rfl) rfl rfl rfl ?_
                refine tr_call (met_c m2 E2 k2 (gt X i).gen _ hT2 H.get2) rfl rfl rfl Try.call77 rfl rfl rfl ?_
                rintro _ w9 ⟨rfl, HC⟩
                have H := H.top2.call1 HC
                refine tr_val (ov_pick_f (va := undef) rfl rfl rfl rfl) rfl rfl rfl ?_
                refine tr_nil (hK16 _ _ (TrC.keep [62, 6, 7, 29, 28, 27, 26, 5, 4, 3, 22, 1] ?_))
                show TrC _ _ _ _ [(62, _), (6, _), (7, _), (29, _), (28, _), (27, _), (26, _), (5, _), (4, _), (3, _), (22, _), (1, _)] _ _
                refine tr_condb rfl (fun c62 => ?_) (fun c62 => ?_)
                · skip
                  refine tr_seq (fun K21 hK21 => ?_)
                  -- region 9: deadline.go:42
                  refine tr_region ?_
                  refine tr_val (ov_assign rfl rfl) rfl rfl rfl ?_
                  refine tr_nil (hK21 _ _ (TrC.keep [2, 62, 6, 7, 29, 28, 27, 26, 5, 4, 3, 22, 1] ?_))
                  show TrC _ _ _ _ [(2, _), (62, _), (6, _), (7, _), (29, _), (28, _), (27, _), (26, _), (5, _), (4, _), (3, _), (22, _), (1, _)] _ _
                  refine tr_ret (post_ret1 (.inr rfl) rfl rfl ?_)
                  (exact ⟨congrArg Value.bool (snd_not hi0 (by omega) (fun q1 q2 q3 q4 => by have q1' := q1; unfold okT at q1'; exact q4 (by rw [← hk2]; exact mfind_mem.mp c62))), by exact H.drop0.drop0.drop0.drop0⟩)
                · skip
                  refine tr_skip (hK15 _ _ (TrC.keep [62, 6, 7, 29, 28, 27, 26, 5, 4, 3, 22, 1] ?_))
                  show TrC _ _ _ _ [(62, _), (6, _), (7, _), (29, _), (28, _), (27, _), (26, _), (5, _), (4, _), (3, _), (22, _), (1, _)] _ _
                  refine tr_seq (fun K22 hK22 => ?_)
                  -- region 10: deadline.go:44
                  refine tr_quiet mixed (by kernel_rfl) H ?_
                  refine tq_val (fun _ H => ov_move rfl rfl) rfl rfl rfl ?_
                  refine tq_val (fun _ H => ov_gtr rfl rfl rfl) rfl rfl rfl ?_
                  refine tq_val (fun _ H => ov_move rfl rfl) rfl rfl rfl ?_
                  refine tq_split (t := 65) rfl (fun s65 => ?_) (fun s65 => ?_)
                  · skip
                    refine tq_val (fun _ H => ov_fieldAddr rfl Try.underlying78 rfl (Try.sizeOf32 _) (by decide) rfl) rfl rfl rfl ?_
                    refine tq_val (fun _ H => ov_load_blk H.get3 rfl (Try.isAgg32 _) rfl rfl rfl) rfl rfl rfl ?_
                    refine tq_val (fun _ H => ov_move rfl rfl) rfl rfl rfl ?_
                    refine tq_val (fun _ H => ov_sub rfl rfl rfl (w64 (by omega))) rfl rfl rfl ?_
                    refine tq_val (fun _ H => ov_indexAddrR (H.rd0 hR) rfl Try.underlying32 (Try.sizeOf30 _) rfl rfl (by omega) (by omega)) rfl rfl rfl ?_
                    refine tq_val (fun _ H => ld_Thing (H.rd0 hR) rfl (Try.isAgg30 _) (Try.sizeOf30 _) rfl (by omega) (by omega)) rfl rfl rfl ?_
                    refine tq_val (fun _ H => ov_load_blkN H.get2 rfl (Try.isAgg30 _) (Try.sizeOf30 _) rfl rfl rfl) rfl rfl rfl ?_
                    refine tq_call (fun _ H => (BeforeT_c (gt X (i - 1)) (gt X i) _).mono (fun _ _ hq => ⟨hq.1, H.call0n hq.2⟩)) rfl rfl rfl Try.call78 rfl rfl rfl ?_
                    refine tq_val (fun _ H => ov_not rfl rfl) rfl rfl rfl ?_
                    refine tq_val (fun _ H => ov_pick (vb := undef) rfl rfl rfl rfl) rfl rfl rfl ?_
                    refine tq_nil ?_
                    intro w10 H
                    refine hK22 _ _ (TrC.keep [75, 62, 7, 29, 28, 27, 26, 5, 4, 3, 22, 1] ?_)
                    show TrC _ _ _ _ [(75, _), (62, _), (7, _), (29, _), (28, _), (27, _), (26, _), (5, _), (4, _), (3, _), (22, _), (1, _)] _ _
                    refine tr_cond rfl (fun c75 => ?_) (fun c75 => ?_)
                    · skip
                      refine tr_seq (fun K23 hK23 => ?_)
                      -- region 11: deadline.go:45
                      refine tr_region ?_
                      refine tr_val (ov_assign rfl rfl) rfl rfl rfl ?_
                      refine tr_nil (hK23 _ _ (TrC.keep [2, 75, 62, 7, 29, 28, 27, 26, 5, 4, 3, 22, 1] ?_))
                      show TrC _ _ _ _ [(2, _), (75, _), (62, _), (7, _), (29, _), (28, _), (27, _), (26, _), (5, _), (4, _), (3, _), (22, _), (1, _)] _ _
                      refine tr_ret (post_ret1 (.inr rfl) rfl rfl ?_)
                      (exact ⟨congrArg Value.bool (snd_not hi0 (by omega) (fun q1 q2 q3 q4 => by have q1' := q1; unfold okT at q1'; exact c75 (q2 (by omega)))), by exact H.drop0.drop0.drop0.drop0⟩)
                    · skip
                      refine tr_skip (hK13 _ _ (TrC.keep [75, 62, 7, 29, 28, 27, 26, 5, 4, 3, 22, 1] ?_))
                      show TrC _ _ _ _ [(75, _), (62, _), (7, _), (29, _), (28, _), (27, _), (26, _), (5, _), (4, _), (3, _), (22, _), (1, _)] _ _
                      -- region 12: deadline.go:40
                      refine tr_region ?_
                      refine tr_val (ov_add rfl rfl rfl (w64 (by omega))) rfl rfl rfl ?_
                      refine tr_val (ov_move rfl rfl) rfl rfl rfl ?_
                      have n1 : (mfind (gt X i).id E1).isSome = false := (by exact s56)
                      have n2 : (mfind (gt X i).gen E2).isSome = false := (by exact c62)
                      exact tr_nil (hK10 (⟨i + 1, (mset (gt X i).id true k1 E1), (mset (gt X i).gen true k2 E2), (msetC (gt X i).id E1 k1), (msetC (gt X i).gen E2 k2)⟩) _ _ (⟨by omega, by omega, (snd_iff hi0 (by omega)).mpr ⟨hs, ⟨by omega, by omega, by omega, by omega⟩, fun hi => (by exact Classical.not_not.mp c75), fun q => (by rw [← hk1] at q; rw [mfind_mem.mpr q] at n1; cases n1), fun q => (by rw [← hk2] at q; rw [mfind_mem.mpr q] at n2; cases n2)⟩, hT1.set, hT2.set, keys_snoc (f := (·.id)) hi0 (by omega) hk1 n1, keys_snoc (f := (·.gen)) hi0 (by omega) hk2 n2, H.drop2⟩) (by (dsimp only; omega)) (Sub.cons rfl (Sub.cons rfl (Sub.cons rfl (Sub.cons rfl (Sub.cons rfl (Sub.cons rfl (Sub.cons rfl (Sub.cons rfl Sub.nil)))))))))
                  · skip
                    refine tq_pass rfl rfl rfl ?_
                    refine tq_pass rfl rfl rfl ?_
                    refine tq_pass rfl rfl rfl ?_
                    refine tq_pass rfl rfl rfl ?_
                    refine tq_pass rfl rfl rfl ?_
                    refine tq_pass rfl rfl rfl ?_
                    refine tq_pass rfl rfl rfl ?_
                    refine tq_pass rfl rfl rfl ?_
                    refine tq_pass rfl rfl rfl ?_
                    refine tq_val (fun _ H => ov_pick_f (va := undef) rfl rfl rfl rfl) rfl rfl rfl ?_
                    refine tq_nil ?_
                    intro w11 H
                    refine hK22 _ _ (TrC.keep [75, 62, 7, 29, 28, 27, 26, 5, 4, 3, 22, 1] ?_)
                    show TrC _ _ _ _ [(75, _), (62, _), (7, _), (29, _), (28, _), (27, _), (26, _), (5, _), (4, _), (3, _), (22, _), (1, _)] _ _
                    refine tr_cond_f rfl rfl ?_
                    refine tr_skip (hK13 _ _ (TrC.keep [75, 62, 7, 29, 28, 27, 26, 5, 4, 3, 22, 1] ?_))
                    show TrC _ _ _ _ [(75, _), (62, _), (7, _), (29, _), (28, _), (27, _), (26, _), (5, _), (4, _), (3, _), (22, _), (1, _)] _ _
                    -- region 12: deadline.go:40
                    refine tr_region ?_
                    refine tr_val (ov_add rfl rfl rfl (w64 (by omega))) rfl rfl rfl ?_
                    refine tr_val (ov_move rfl rfl) rfl rfl rfl ?_
                    have n1 : (mfind (gt X i).id E1).isSome = false := (by exact s56)
                    have n2 : (mfind (gt X i).gen E2).isSome = false := (by exact c62)
                    exact tr_nil (hK10 (⟨i + 1, (mset (gt X i).id true k1 E1), (mset (gt X i).gen true k2 E2), (msetC (gt X i).id E1 k1), (msetC (gt X i).gen E2 k2)⟩) _ _ (⟨by omega, by omega, (snd_iff hi0 (by omega)).mpr ⟨hs, ⟨by omega, by omega, by omega, by omega⟩, fun hi => (by (exfalso; omega)), fun q => (by rw [← hk1] at q; rw [mfind_mem.mpr q] at n1; cases n1), fun q => (by rw [← hk2] at q; rw [mfind_mem.mpr q] at n2; cases n2)⟩, hT1.set, hT2.set, keys_snoc (f := (·.id)) hi0 (by omega) hk1 n1, keys_snoc (f := (·.gen)) hi0 (by omega) hk2 n2, H.drop2⟩) (by (dsimp only; omega)) (Sub.cons rfl (Sub.cons rfl (Sub.cons rfl (Sub.cons rfl (Sub.cons rfl (Sub.cons rfl (Sub.cons rfl (Sub.cons rfl Sub.nil)))))))))
      · skip
        refine tr_exit (hK8 _ _ (TrC.keep [29, 28, 27, 26, 5, 4, 3, 22, 1] ?_))
        show TrC _ _ _ _ [(29, _), (28, _), (27, _), (26, _), (5, _), (4, _), (3, _), (22, _), (1, _)] _ _
        refine tr_seq (fun K24 hK24 => ?_)
        -- region 13: deadline.go:48
        refine tr_region ?_
        refine tr_val (ov_assign rfl rfl) rfl rfl rfl ?_
        refine tr_nil (hK24 _ _ (TrC.keep [2, 29, 28, 27, 26, 5, 4, 3, 22, 1] ?_))
        show TrC _ _ _ _ [(2, _), (29, _), (28, _), (27, _), (26, _), (5, _), (4, _), (3, _), (22, _), (1, _)] _ _
        refine tr_ret (post_ret1 (.inr rfl) rfl rfl ?_)
        (have e : X.take i.toNat = X := List.take_of_length_le (by omega); rw [e] at hs; exact ⟨congrArg Value.bool (sndB_true.mpr ⟨by omega, by omega, by omega, hs⟩).symm, H.drop0.drop0.drop0⟩)

/-! curfew/deadline.Load -/
set_option maxRecDepth 20000 in
theorem Load_n (B : Option Addr) (c : Nat) (X : List Thing) (now last : Int) (w : World) (hR : Rd w B 3 (X.map encThing)) (hl : X.length ≤ 60000) (hs : ¬ sndP now last X) : Does Try.prog 35 #[.agg #[.int .i64 now, .int .u64 last, .slice B (X).length c]] w (fun v w' => v = .tuple #[.pointer none, .int .i64 2] ∧ SH w noBlocks [] w') := by
  refine does_enter1 Try.func35 rfl Try.ntmps35 rfl ?_
  have H := SH.start w noBlocks
  refine tr_seq (fun K1 hK1 => ?_)
  -- region 0: deadline.go:72
  refine tr_region ?_
  refine tr_box H rfl rfl rfl rfl rfl rfl ?_
  intro b1 w1 hb1 H
  refine tr_val (ov_assign rfl rfl) rfl rfl rfl ?_
  refine tr_val (ov_assign rfl rfl) rfl rfl rfl ?_
  refine tr_nil (hK1 _ _ (TrC.keep [3, 2, 1] ?_))
  show TrC _ _ _ _ [(3, _), (2, _), (1, _)] _ _
  refine tr_seq (fun K2 hK2 => ?_)
  refine tr_seq (fun K3 hK3 => ?_)
  -- region 1: deadline.go:73
  refine tr_region ?_
  refine tr_val (ov_load_blkN H.get0 rfl (Try.isAgg78 _) (Try.sizeOf78 _) rfl rfl rfl) rfl rfl rfl ?_
  refine tr_call (Sound_c B c X now last _ (H.rd0 hR) hl) rfl rfl rfl Try.call42 rfl rfl rfl ?_
  rintro _ w2 ⟨rfl, HC⟩
  have H := H.call0n HC
  rw [sndB_false hs]
  refine tr_val (ov_notb rfl rfl) rfl rfl rfl ?_
  refine tr_nil (hK3 _ _ (TrC.keep [9, 3, 2, 1] ?_))
  show TrC _ _ _ _ [(9, _), (3, _), (2, _), (1, _)] _ _
  refine tr_condb rfl (fun c9 => ?_) (fun c9 => ?_)
  · skip
    refine tr_seq (fun K4 hK4 => ?_)
    -- region 2: deadline.go:74
    refine tr_region ?_
    refine tr_val (ov_assign rfl rfl) rfl rfl rfl ?_
    refine tr_val (ov_assign rfl rfl) rfl rfl rfl ?_
    refine tr_nil (hK4 _ _ (TrC.keep [3, 2, 9, 1] ?_))
    show TrC _ _ _ _ [(3, _), (2, _), (9, _), (1, _)] _ _
    refine tr_ret (post_ret2 (.inr rfl) rfl rfl rfl ?_)
    exact ⟨rfl, H.drop0⟩
  · cases c9

/-! curfew/deadline.Load -/
set_option maxRecDepth 20000 in
theorem Load_c (B : Option Addr) (c : Nat) (X : List Thing) (now last : Int) (w : World) (hR : Rd w B 3 (X.map encThing)) (hl : X.length ≤ 60000) (h0 : 0 ≤ last) (hs : sndP now last X) : Does Try.prog 35 #[.agg #[.int .i64 now, .int .u64 last, .slice B (X).length c]] w (fun v w' => ∃ b L, v = .tuple #[.pointer (some ⟨b, 0, none⟩), .int .i64 0] ∧ BookX b now last X L ∧ SH w noBlocks [pack L] w') := by
  refine does_enter1 Try.func35 rfl Try.ntmps35 rfl ?_
  have H := SH.start w noBlocks
  refine tr_seq (fun K1 hK1 => ?_)
  -- region 0: deadline.go:72
  refine tr_region ?_
  refine tr_box H rfl rfl rfl rfl rfl rfl ?_
  intro b1 w1 hb1 H
  refine tr_val (ov_assign rfl rfl) rfl rfl rfl ?_
  refine tr_val (ov_assign rfl rfl) rfl rfl rfl ?_
  refine tr_nil (hK1 _ _ (TrC.keep [3, 2, 1] ?_))
  show TrC _ _ _ _ [(3, _), (2, _), (1, _)] _ _
  refine tr_seq (fun K2 hK2 => ?_)
  refine tr_seq (fun K3 hK3 => ?_)
  -- region 1: deadline.go:73
  refine tr_region ?_
  refine tr_val (ov_load_blkN H.get0 rfl (Try.isAgg78 _) (Try.sizeOf78 _) rfl rfl rfl) rfl rfl rfl ?_
  refine tr_call (Sound_c B c X now last _ (H.rd0 hR) hl) rfl rfl rfl Try.call42 rfl rfl rfl ?_
  rintro _ w2 ⟨rfl, HC⟩
  have H := H.call0n HC
  rw [sndB_true.mpr hs]
  refine tr_val (ov_notb rfl rfl) rfl rfl rfl ?_
  refine tr_nil (hK3 _ _ (TrC.keep [9, 3, 2, 1] ?_))
  show TrC _ _ _ _ [(9, _), (3, _), (2, _), (1, _)] _ _
  refine tr_condb rfl (fun c9 => ?_) (fun c9 => ?_)
  · cases c9
  · skip
    refine tr_skip (hK2 _ _ (TrC.keep [9, 3, 2, 1] ?_))
    show TrC _ _ _ _ [(9, _), (3, _), (2, _), (1, _)] _ _
    refine tr_seq (fun K4 hK4 => ?_)
    -- region 3: deadline.go:76
    refine tr_region ?_
    refine tr_val (ov_fieldAddr rfl Try.underlying78 rfl (Try.sizeOf2 _) (by decide) rfl) rfl rfl rfl ?_
    refine tr_val (ov_load_blk H.get0 rfl (Try.isAgg2 _) rfl rfl rfl) rfl rfl rfl ?_
    refine tr_call (bNew_c now _ hs.1) rfl rfl rfl Try.call28 rfl rfl rfl ?_
    rintro _ w3 ⟨b, L0, rfl, hB0, HC⟩
    have H := H.call0r HC
    obtain ⟨_, _, d, L1, hW1, rfl⟩ := hB0
    have H := H.unpack
    refine tr_val (ov_assign rfl rfl) rfl rfl rfl ?_
    refine tr_nil (hK4 _ _ (TrC.keep [4, 9, 3, 2, 1] ?_))
    show TrC _ _ _ _ [(4, _), (9, _), (3, _), (2, _), (1, _)] _ _
    refine tr_seq (fun K5 hK5 => ?_)
    -- region 4: deadline.go:77
    refine tr_region ?_
    refine tr_val (ov_move rfl rfl) rfl rfl rfl ?_
    refine tr_val (ov_fieldAddr rfl Try.underlying78 rfl (Try.sizeOf28 _) (by decide) rfl) rfl rfl rfl ?_
    refine tr_val (ov_load_blk H.get2 rfl (Try.isAgg28 _) rfl rfl rfl) rfl rfl rfl ?_
    refine tr_val (ov_nilCheck rfl rfl) rfl rfl rfl ?_
    refine tr_val (ov_fieldAddr rfl Try.underlying95 rfl (Try.sizeOf28 _) (by decide) rfl) rfl rfl rfl ?_
    (refine tr_store H.get0 rfl (Try.sizeOf28 _) rfl rfl rfl rfl rfl rfl rfl ?_; intro w4 U; have H := H.upd0 U; clear U)
    try simp only [List.set_cons_zero, List.set_cons_succ, Nat.zero_add] at H
    refine tr_nil (hK5 _ _ (TrC.keep [4, 9, 3, 2, 1] ?_))
    show TrC _ _ _ _ [(4, _), (9, _), (3, _), (2, _), (1, _)] _ _
    refine tr_seq (fun K6 hK6 => ?_)
    refine tr_seq (fun K7 hK7 => ?_)
    -- region 5: deadline.go:78
    change SH w _ [blk b 95 [.pointer (some ⟨d, 0, none⟩), .int .u64 last], pack L1, blk b1 78 [.int .i64 now, .int .u64 last, .slice B (X).length c]] _ at H
    refine tr_region ?_
    refine tr_val (ov_fieldAddr rfl Try.underlying78 rfl (Try.sizeOf32 _) (by decide) rfl) rfl rfl rfl ?_
    refine tr_val (ov_load_blk H.get2 rfl (Try.isAgg32 _) rfl rfl rfl) rfl rfl rfl ?_
    refine tr_val (ov_len rfl rfl Try.underlying32 rfl) rfl rfl rfl ?_
    refine tr_val (ov_move rfl rfl) rfl rfl rfl ?_
    refine tr_nil (hK7 _ _ (TrC.keep [21, 20, 19, 4, 9, 3, 2, 1] ?_))
    show TrC _ _ _ _ [(21, _), (20, _), (19, _), (4, _), (9, _), (3, _), (2, _), (1, _)] _ _
    refine tr_block ?_
    refine tr_loop_ (X := Int × List Res) [20, 19, 4, 9, 3, 2, 1] (fun ⟨i, L2⟩ => [(21, .int .i64 i)]) (fun ⟨i, L2⟩ w' => 0 ≤ i ∧ i ≤ X.length ∧ WheelX 65 117 161 30 d now (X.take i.toNat) L2 ∧ SH w noBlocks [blk b 95 [.pointer (some ⟨d, 0, none⟩), .int .u64 last], pack L2, blk b1 78 [.int .i64 now, .int .u64 last, .slice B (X).length c]] w') (fun ⟨i, L2⟩ => (X.length - i).toNat) (⟨0, L1⟩) (Sub.cons rfl (Sub.cons rfl (Sub.cons rfl (Sub.cons rfl (Sub.cons rfl (Sub.cons rfl (Sub.cons rfl (Sub.cons rfl Sub.nil)))))))) (⟨by omega, by omega, hW1, H⟩) ?_
    rintro ⟨i, L2⟩ w5 ⟨hi0, hi1, hW, H⟩ K8 hK8
    show TrC _ _ _ _ [(21, _), (20, _), (19, _), (4, _), (9, _), (3, _), (2, _), (1, _)] _ _
    refine tr_seq (fun K9 hK9 => ?_)
    -- region 6: deadline.go:78
    refine tr_region ?_
    refine tr_val (ov_lss rfl rfl rfl) rfl rfl rfl ?_
    refine tr_nil (hK9 _ _ (TrC.keep [22, 21, 20, 19, 4, 9, 3, 2, 1] ?_))
    show TrC _ _ _ _ [(22, _), (21, _), (20, _), (19, _), (4, _), (9, _), (3, _), (2, _), (1, _)] _ _
    refine tr_seq (fun K10 hK10 => ?_)
    refine tr_cond rfl (fun c22 => ?_) (fun c22 => ?_)
    · skip
      refine tr_skip (hK10 _ _ (TrC.keep [22, 21, 20, 19, 4, 9, 3, 2, 1] ?_))
      show TrC _ _ _ _ [(22, _), (21, _), (20, _), (19, _), (4, _), (9, _), (3, _), (2, _), (1, _)] _ _
      refine tr_seq (fun K11 hK11 => ?_)
      refine tr_block ?_
      refine tr_seq (fun K12 hK12 => ?_)
      -- region 7: deadline.go:78
      refine tr_region ?_
      refine tr_val (ov_indexAddrR (H.rd0 hR) rfl Try.underlying32 (Try.sizeOf30 _) rfl rfl (by omega) (by omega)) rfl rfl rfl ?_
      refine tr_val (ld_Thing (H.rd0 hR) rfl (Try.isAgg30 _) (Try.sizeOf30 _) rfl (by omega) (by omega)) rfl rfl rfl ?_
      refine tr_alloc H rfl (Try.zeroValue30 _) rfl rfl rfl rfl ?_
      intro b6 w6 hb6 H
      (refine tr_storeW H.get0 rfl (Try.sizeOf30 _) rfl rfl rfl rfl rfl rfl rfl rfl ?_; intro w7 U; have H := H.upd0 U; clear U)
      refine tr_nil (hK12 _ _ (TrC.keep [6, 22, 21, 20, 19, 4, 9, 3, 2, 1] ?_))
      show TrC _ _ _ _ [(6, _), (22, _), (21, _), (20, _), (19, _), (4, _), (9, _), (3, _), (2, _), (1, _)] _ _
      -- region 8: deadline.go:79
      refine tr_held (fun w' => (blk b 95 [.pointer (some ⟨d, 0, none⟩), .int .u64 last]).holds w' ∧ (blk b6 30 [.int .u64 (gt X i).id, .int .u64 (gt X i).gen, .int .i64 (gt X i).due]).holds w') mixed rfl H ?_
      intro w8 H
      refine th_take 0 rfl (by kernel_rfl) (by kernel_rfl) (by kernel_rfl) ((by exact ⟨H.get1, H.get0⟩)) (fun _ hS => ov_move rfl rfl) rfl rfl rfl ?_
      refine th_take 1 rfl (by kernel_rfl) (by kernel_rfl) (by kernel_rfl) ((by exact ⟨H.get1, H.get0⟩)) (fun _ hS => ov_nilCheck rfl rfl) rfl rfl rfl ?_
      refine th_take 2 rfl (by kernel_rfl) (by kernel_rfl) (by kernel_rfl) ((by exact ⟨H.get1, H.get0⟩)) (fun _ hS => ov_fieldAddr rfl Try.underlying95 rfl (Try.sizeOf24 _) (by decide) rfl) rfl rfl rfl ?_
      refine th_take 3 rfl (by kernel_rfl) (by kernel_rfl) (by kernel_rfl) ((by exact ⟨H.get1, H.get0⟩)) (fun _ hS => ov_load_blk hS.1 rfl (Try.isAgg24 _) rfl rfl rfl) rfl rfl rfl ?_
      refine th_take 4 rfl (by kernel_rfl) (by kernel_rfl) (by kernel_rfl) ((by exact ⟨H.get1, H.get0⟩)) (fun _ hS => ov_load_blkN hS.2 rfl (Try.isAgg30 _) (Try.sizeOf30 _) rfl rfl rfl) rfl rfl rfl ?_
      refine th_one 5 (by kernel_rfl) ?_
      refine tw_call (wArm_c d now (X.take i.toNat) L2 _ hW H.get2 (gt X i)) rfl rfl rfl rfl Try.call15 rfl rfl rfl ?_
      rintro _ w9 ⟨rfl, L3, hW3, HC⟩
      have H := H.top2.call1 HC
      rw [snd_arm hs.2.2.2 hs.2.2.1 hi0 (by omega)] at hW3 ⊢
      refine ⟨(by exact ⟨H.get2, H.get1⟩), ?_⟩
      refine th_done (by kernel_rfl) ?_
      refine hK11 _ _ (TrC.keep [6, 22, 21, 20, 19, 4, 9, 3, 2, 1] ?_)
      show TrC _ _ _ _ [(6, _), (22, _), (21, _), (20, _), (19, _), (4, _), (9, _), (3, _), (2, _), (1, _)] _ _
      -- region 9: deadline.go:78
      refine tr_region ?_
      refine tr_val (ov_add rfl rfl rfl (w64 (by omega))) rfl rfl rfl ?_
      refine tr_val (ov_move rfl rfl) rfl rfl rfl ?_
      skip
      exact tr_nil (hK8 (⟨i + 1, L3⟩) _ _ (⟨by omega, by omega, hW3, H.drop1.top1⟩) (by (dsimp only; omega)) (Sub.cons rfl (Sub.cons rfl (Sub.cons rfl (Sub.cons rfl (Sub.cons rfl (Sub.cons rfl (Sub.cons rfl (Sub.cons rfl Sub.nil)))))))))
    · skip
      refine tr_exit (hK6 _ _ (TrC.keep [22, 21, 20, 19, 4, 9, 3, 2, 1] ?_))
      show TrC _ _ _ _ [(22, _), (21, _), (20, _), (19, _), (4, _), (9, _), (3, _), (2, _), (1, _)] _ _
      refine tr_seq (fun K13 hK13 => ?_)
      -- region 10: deadline.go:81
      refine tr_region ?_
      refine tr_val (ov_move rfl rfl) rfl rfl rfl ?_
      refine tr_val (ov_assign rfl rfl) rfl rfl rfl ?_
      refine tr_val (ov_assign rfl rfl) rfl rfl rfl ?_
      refine tr_nil (hK13 _ _ (TrC.keep [3, 2, 22, 21, 20, 19, 4, 9, 1] ?_))
      show TrC _ _ _ _ [(3, _), (2, _), (22, _), (21, _), (20, _), (19, _), (4, _), (9, _), (1, _)] _ _
      refine tr_ret (post_ret2 (.inr rfl) rfl rfl rfl ?_)
      have e : X.take i.toNat = X := List.take_of_length_le (by omega)
      rw [e] at hW
      exact ⟨b, _, rfl, ⟨h0, hs.2.1, d, L2, hW, rfl⟩, SH.pack1 H.drop2⟩

/-! (*curfew/deadline.Book).Clone -/
set_option maxRecDepth 20000 in
theorem bClone_c (b : Nat) (now last : Int) (X : List Thing) (L : List Res) (w : World) (hX : BookX b now last X L) (hO : (pack L).holds w) (hs : sndP now last (sortT X)) : Does Try.prog 40 #[.pointer (some ⟨b, 0, none⟩)] w (fun v w' => ∃ b' L', v = .pointer (some ⟨b', 0, none⟩) ∧ BookX b' now last (sortT X) L' ∧ SH w noBlocks [pack L'] w') := by
  obtain ⟨hla0, hla1, _⟩ := id hX
  have hsl := hs.2.2.1
  refine does_enter1 Try.func40 rfl Try.ntmps40 rfl ?_
  have H := SH.start w noBlocks
  refine tr_seq (fun K1 hK1 => ?_)
  -- region 0: deadline.go:95
  refine tr_region ?_
  refine tr_val (ov_assign rfl rfl) rfl rfl rfl ?_
  refine tr_nil (hK1 _ _ (TrC.keep [2, 0] ?_))
  show TrC _ _ _ _ [(2, _), (0, _)] _ _
  refine tr_seq (fun K2 hK2 => ?_)
  refine tr_seq (fun K3 hK3 => ?_)
  -- region 1: deadline.go:96
  refine tr_region ?_
  refine tr_val (ov_move rfl rfl) rfl rfl rfl ?_
  refine tr_call (bnone_c b now last X L _ hX (H.res0 hO)) rfl rfl rfl Try.call71 rfl rfl rfl ?_
  rintro _ w1 ⟨rfl, HC⟩
  have H := H.call0n HC
  refine tr_nil (hK3 _ _ (TrC.keep [6, 2, 0] ?_))
  show TrC _ _ _ _ [(6, _), (2, _), (0, _)] _ _
  refine tr_condb rfl (fun c6 => ?_) (fun c6 => ?_)
  · cases c6
  · skip
    refine tr_skip (hK2 _ _ (TrC.keep [6, 2, 0] ?_))
    show TrC _ _ _ _ [(6, _), (2, _), (0, _)] _ _
    refine tr_seq (fun K4 hK4 => ?_)
    -- region 3: deadline.go:99
    refine tr_region ?_
    refine tr_val (ov_move rfl rfl) rfl rfl rfl ?_
    refine tr_call (bState_c b now last X L _ hX (H.res0 hO)) rfl rfl rfl Try.call33 rfl rfl rfl ?_
    rintro _ w2 ⟨A1, c1, rfl, HC⟩
    have H := H.call0r HC
    refine tr_call (Load_c A1 c1 (sortT X) now last _ (vec_rd H.get0 lenThing (by decide)) (by omega) hla0 hs) rfl rfl rfl Try.call35 rfl rfl rfl ?_
    rintro _ w3 ⟨b', L', rfl, hB', HC⟩
    have H := H.call0r HC
    refine tr_val (ov_move rfl rfl) rfl rfl rfl ?_
    refine tr_val (ov_extract rfl rfl rfl) rfl rfl rfl ?_
    refine tr_val (ov_extract rfl rfl rfl) rfl rfl rfl ?_
    refine tr_val (ov_assign rfl rfl) rfl rfl rfl ?_
    refine tr_val (ov_assign rfl rfl) rfl rfl rfl ?_
    refine tr_nil (hK4 _ _ (TrC.keep [3, 6, 2, 0] ?_))
    show TrC _ _ _ _ [(3, _), (6, _), (2, _), (0, _)] _ _
    refine tr_seq (fun K5 hK5 => ?_)
    -- region 4: deadline.go:100
    refine tr_region ?_
    refine tr_val (ov_move rfl rfl) rfl rfl rfl ?_
    refine tr_val (ov_assign rfl rfl) rfl rfl rfl ?_
    refine tr_nil (hK5 _ _ (TrC.keep [2, 6, 0] ?_))
    show TrC _ _ _ _ [(2, _), (6, _), (0, _)] _ _
    refine tr_ret (post_ret1 (.inr rfl) rfl rfl ?_)
    exact ⟨b', L', rfl, hB', H.drop1⟩

end Go.Proofs.Ytblipnjjgbggiaa
