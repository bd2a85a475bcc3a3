/- Contracts of wheel.Wheel: Contracts of curfewref12. Conditions: none. -/
import Derived.Test.YtblipnjjgbggiaaWheelR
namespace Go.Proofs.Ytblipnjjgbggiaa
open Go Go.RowKit
set_option linter.unusedVariables false
set_option linter.unusedSimpArgs false

/-! curfew/curfewref12.place -/
set_option maxRecDepth 20000 in
theorem placeR_c (now due : Int) (w : World) (h0 : 0 ≤ now ∧ now ≤ 1125899906842624) (h1 : 0 ≤ due ∧ due ≤ 1125899906842624) : Does Try.prog 69 #[.int .i64 now, .int .i64 due] w (fun v w' => v = .int .i64 (plcR now due) ∧ SH w noBlocks [] w') := by
  refine does_enter2 Try.func69 rfl Try.ntmps69 rfl ?_
  have H := SH.start w noBlocks
  refine tr_seq (fun K1 hK1 => ?_)
  -- region 0: ref.go:65
  refine tr_region ?_
  refine tr_val (ov_assign rfl rfl) rfl rfl rfl ?_
  refine tr_nil (hK1 _ _ (TrC.keep [4, 0, 1] ?_))
  show TrC _ _ _ _ [(4, _), (0, _), (1, _)] _ _
  refine tr_seq (fun K2 hK2 => ?_)
  refine tr_seq (fun K3 hK3 => ?_)
  -- region 1: ref.go:66
  refine tr_region ?_
  refine tr_val (ov_move rfl rfl) rfl rfl rfl ?_
  refine tr_val (ov_move rfl rfl) rfl rfl rfl ?_
  refine tr_val (ov_leq rfl rfl rfl) rfl rfl rfl ?_
  refine tr_nil (hK3 _ _ (TrC.keep [7, 4, 0, 1] ?_))
  show TrC _ _ _ _ [(7, _), (4, _), (0, _), (1, _)] _ _
  refine tr_cond rfl (fun c7 => ?_) (fun c7 => ?_)
  · skip
    refine tr_seq (fun K4 hK4 => ?_)
    -- region 2: ref.go:67
    refine tr_region ?_
    refine tr_val (ov_assign rfl rfl) rfl rfl rfl ?_
    refine tr_nil (hK4 _ _ (TrC.keep [4, 7, 0, 1] ?_))
    show TrC _ _ _ _ [(4, _), (7, _), (0, _), (1, _)] _ _
    refine tr_ret (post_ret1 (.inr rfl) rfl rfl ?_)
    unfold plcR; rcases place_cases now due with ⟨_, _, h⟩ | ⟨_, _, _, h⟩ | ⟨_, _, _, h⟩ | ⟨_, _, _, h⟩ | ⟨_, h⟩ <;> rw [h] <;> first | exact ⟨rfl, H⟩ | (exfalso; omega)
  · skip
    refine tr_skip (hK2 _ _ (TrC.keep [7, 4, 0, 1] ?_))
    show TrC _ _ _ _ [(7, _), (4, _), (0, _), (1, _)] _ _
    refine tr_seq (fun K5 hK5 => ?_)
    refine tr_seq (fun K6 hK6 => ?_)
    -- region 3: ref.go:69
    refine tr_region ?_
    refine tr_val (ov_move rfl rfl) rfl rfl rfl ?_
    refine tr_val (ov_quo rfl rfl rfl (by omega) (show IntKind.i64.wrap (due.tdiv 64) = due / 64 from by rw [Int.tdiv_eq_ediv_of_nonneg (by omega)]; exact w64 (by omega))) rfl rfl rfl ?_
    refine tr_val (ov_move rfl rfl) rfl rfl rfl ?_
    refine tr_val (ov_quo rfl rfl rfl (by omega) (show IntKind.i64.wrap (now.tdiv 64) = now / 64 from by rw [Int.tdiv_eq_ediv_of_nonneg (by omega)]; exact w64 (by omega))) rfl rfl rfl ?_
    refine tr_val (ov_eql rfl rfl rfl) rfl rfl rfl ?_
    refine tr_nil (hK6 _ _ (TrC.keep [12, 7, 4, 0, 1] ?_))
    show TrC _ _ _ _ [(12, _), (7, _), (4, _), (0, _), (1, _)] _ _
    refine tr_cond rfl (fun c12 => ?_) (fun c12 => ?_)
    · skip
      refine tr_seq (fun K7 hK7 => ?_)
      -- region 4: ref.go:70
      refine tr_region ?_
      refine tr_val (ov_assign rfl rfl) rfl rfl rfl ?_
      refine tr_nil (hK7 _ _ (TrC.keep [4, 12, 7, 0, 1] ?_))
      show TrC _ _ _ _ [(4, _), (12, _), (7, _), (0, _), (1, _)] _ _
      refine tr_ret (post_ret1 (.inr rfl) rfl rfl ?_)
      unfold plcR; rcases place_cases now due with ⟨_, _, h⟩ | ⟨_, _, _, h⟩ | ⟨_, _, _, h⟩ | ⟨_, _, _, h⟩ | ⟨_, h⟩ <;> rw [h] <;> first | exact ⟨rfl, H⟩ | (exfalso; omega)
    · skip
      refine tr_skip (hK5 _ _ (TrC.keep [12, 7, 4, 0, 1] ?_))
      show TrC _ _ _ _ [(12, _), (7, _), (4, _), (0, _), (1, _)] _ _
      refine tr_seq (fun K8 hK8 => ?_)
      refine tr_seq (fun K9 hK9 => ?_)
      -- region 5: ref.go:72
      refine tr_region ?_
      refine tr_val (ov_move rfl rfl) rfl rfl rfl ?_
      refine tr_val (ov_quo rfl rfl rfl (by omega) (show IntKind.i64.wrap (due.tdiv 4096) = due / 4096 from by rw [Int.tdiv_eq_ediv_of_nonneg (by omega)]; exact w64 (by omega))) rfl rfl rfl ?_
      refine tr_val (ov_move rfl rfl) rfl rfl rfl ?_
      refine tr_val (ov_quo rfl rfl rfl (by omega) (show IntKind.i64.wrap (now.tdiv 4096) = now / 4096 from by rw [Int.tdiv_eq_ediv_of_nonneg (by omega)]; exact w64 (by omega))) rfl rfl rfl ?_
      refine tr_val (ov_eql rfl rfl rfl) rfl rfl rfl ?_
      refine tr_nil (hK9 _ _ (TrC.keep [17, 12, 7, 4, 0, 1] ?_))
      show TrC _ _ _ _ [(17, _), (12, _), (7, _), (4, _), (0, _), (1, _)] _ _
      refine tr_cond rfl (fun c17 => ?_) (fun c17 => ?_)
      · skip
        refine tr_seq (fun K10 hK10 => ?_)
        -- region 6: ref.go:73
        refine tr_region ?_
        refine tr_val (ov_assign rfl rfl) rfl rfl rfl ?_
        refine tr_nil (hK10 _ _ (TrC.keep [4, 17, 12, 7, 0, 1] ?_))
        show TrC _ _ _ _ [(4, _), (17, _), (12, _), (7, _), (0, _), (1, _)] _ _
        refine tr_ret (post_ret1 (.inr rfl) rfl rfl ?_)
        unfold plcR; rcases place_cases now due with ⟨_, _, h⟩ | ⟨_, _, _, h⟩ | ⟨_, _, _, h⟩ | ⟨_, _, _, h⟩ | ⟨_, h⟩ <;> rw [h] <;> first | exact ⟨rfl, H⟩ | (exfalso; omega)
      · skip
        refine tr_skip (hK8 _ _ (TrC.keep [17, 12, 7, 4, 0, 1] ?_))
        show TrC _ _ _ _ [(17, _), (12, _), (7, _), (4, _), (0, _), (1, _)] _ _
        refine tr_seq (fun K11 hK11 => ?_)
        refine tr_seq (fun K12 hK12 => ?_)
        -- region 7: ref.go:75
        refine tr_region ?_
        refine tr_val (ov_move rfl rfl) rfl rfl rfl ?_
        refine tr_val (ov_quo rfl rfl rfl (by omega) (show IntKind.i64.wrap (due.tdiv 262144) = due / 262144 from by rw [Int.tdiv_eq_ediv_of_nonneg (by omega)]; exact w64 (by omega))) rfl rfl rfl ?_
        refine tr_val (ov_move rfl rfl) rfl rfl rfl ?_
        refine tr_val (ov_quo rfl rfl rfl (by omega) (show IntKind.i64.wrap (now.tdiv 262144) = now / 262144 from by rw [Int.tdiv_eq_ediv_of_nonneg (by omega)]; exact w64 (by omega))) rfl rfl rfl ?_
        refine tr_val (ov_eql rfl rfl rfl) rfl rfl rfl ?_
        refine tr_nil (hK12 _ _ (TrC.keep [22, 17, 12, 7, 4, 0, 1] ?_))
        show TrC _ _ _ _ [(22, _), (17, _), (12, _), (7, _), (4, _), (0, _), (1, _)] _ _
        refine tr_cond rfl (fun c22 => ?_) (fun c22 => ?_)
        · skip
          refine tr_seq (fun K13 hK13 => ?_)
          -- region 8: ref.go:76
          refine tr_region ?_
          refine tr_val (ov_assign rfl rfl) rfl rfl rfl ?_
          refine tr_nil (hK13 _ _ (TrC.keep [4, 22, 17, 12, 7, 0, 1] ?_))
          show TrC _ _ _ _ [(4, _), (22, _), (17, _), (12, _), (7, _), (0, _), (1, _)] _ _
          refine tr_ret (post_ret1 (.inr rfl) rfl rfl ?_)
          unfold plcR; rcases place_cases now due with ⟨_, _, h⟩ | ⟨_, _, _, h⟩ | ⟨_, _, _, h⟩ | ⟨_, _, _, h⟩ | ⟨_, h⟩ <;> rw [h] <;> first | exact ⟨rfl, H⟩ | (exfalso; omega)
        · skip
          refine tr_skip (hK11 _ _ (TrC.keep [22, 17, 12, 7, 4, 0, 1] ?_))
          show TrC _ _ _ _ [(22, _), (17, _), (12, _), (7, _), (4, _), (0, _), (1, _)] _ _
          refine tr_seq (fun K14 hK14 => ?_)
          refine tr_seq (fun K15 hK15 => ?_)
          -- region 9: ref.go:78
          refine tr_region ?_
          refine tr_val (ov_move rfl rfl) rfl rfl rfl ?_
          refine tr_val (ov_quo rfl rfl rfl (by omega) (show IntKind.i64.wrap (due.tdiv 16777216) = due / 16777216 from by rw [Int.tdiv_eq_ediv_of_nonneg (by omega)]; exact w64 (by omega))) rfl rfl rfl ?_
          refine tr_val (ov_move rfl rfl) rfl rfl rfl ?_
          refine tr_val (ov_quo rfl rfl rfl (by omega) (show IntKind.i64.wrap (now.tdiv 16777216) = now / 16777216 from by rw [Int.tdiv_eq_ediv_of_nonneg (by omega)]; exact w64 (by omega))) rfl rfl rfl ?_
          refine tr_val (ov_eql rfl rfl rfl) rfl rfl rfl ?_
          refine tr_nil (hK15 _ _ (TrC.keep [27, 22, 17, 12, 7, 4, 0, 1] ?_))
          show TrC _ _ _ _ [(27, _), (22, _), (17, _), (12, _), (7, _), (4, _), (0, _), (1, _)] _ _
          refine tr_cond rfl (fun c27 => ?_) (fun c27 => ?_)
          · skip
            refine tr_seq (fun K16 hK16 => ?_)
            -- region 10: ref.go:79
            refine tr_region ?_
            refine tr_val (ov_assign rfl rfl) rfl rfl rfl ?_
            refine tr_nil (hK16 _ _ (TrC.keep [4, 27, 22, 17, 12, 7, 0, 1] ?_))
            show TrC _ _ _ _ [(4, _), (27, _), (22, _), (17, _), (12, _), (7, _), (0, _), (1, _)] _ _
            refine tr_ret (post_ret1 (.inr rfl) rfl rfl ?_)
            unfold plcR; rcases place_cases now due with ⟨_, _, h⟩ | ⟨_, _, _, h⟩ | ⟨_, _, _, h⟩ | ⟨_, _, _, h⟩ | ⟨_, h⟩ <;> rw [h] <;> first | exact ⟨rfl, H⟩ | (exfalso; omega)
          · skip
            refine tr_skip (hK14 _ _ (TrC.keep [27, 22, 17, 12, 7, 4, 0, 1] ?_))
            show TrC _ _ _ _ [(27, _), (22, _), (17, _), (12, _), (7, _), (4, _), (0, _), (1, _)] _ _
            refine tr_seq (fun K17 hK17 => ?_)
            -- region 11: ref.go:81
            refine tr_region ?_
            refine tr_val (ov_assign rfl rfl) rfl rfl rfl ?_
            refine tr_nil (hK17 _ _ (TrC.keep [4, 27, 22, 17, 12, 7, 0, 1] ?_))
            show TrC _ _ _ _ [(4, _), (27, _), (22, _), (17, _), (12, _), (7, _), (0, _), (1, _)] _ _
            refine tr_ret (post_ret1 (.inr rfl) rfl rfl ?_)
            unfold plcR; rcases place_cases now due with ⟨_, _, h⟩ | ⟨_, _, _, h⟩ | ⟨_, _, _, h⟩ | ⟨_, _, _, h⟩ | ⟨_, h⟩ <;> rw [h] <;> first | exact ⟨rfl, H⟩ | (exfalso; omega)

theorem plain_snoc {W : List RThing} {i : Int} (h0 : 0 ≤ i) (h1 : i < W.length) : (W.take (i + 1).toNat).map plainR = (W.take i.toNat).map plainR ++ [plainR (gt W i)] := by rw [take_gt h0 h1]; simp

/-! curfew/curfewref12.Spread -/
set_option maxRecDepth 20000 in
theorem SpreadR_c (B : Option Addr) (c : Nat) (W : List RThing) (now : Int) (w : World) (hR : Rd w B 4 (W.map encRThing)) (hW : W.length ≤ 60000) (hn : 0 ≤ now ∧ now ≤ 1125899906842624) (hd : ∀ r, r ∈ W → 0 ≤ r.due ∧ r.due ≤ 1125899906842624) : Does Try.prog 24 #[.agg #[.int .i64 now, .slice B (W).length c]] w (fun v w' => v = A5 (spreadA now (W.map plainR)) ∧ SH w noBlocks [] w') := by
  refine does_enter1 Try.func24 rfl Try.ntmps24 rfl ?_
  have H := SH.start w noBlocks
  refine tr_seq (fun K1 hK1 => ?_)
  -- region 0: ref.go:85
  refine tr_region ?_
  refine tr_box H rfl rfl rfl rfl rfl rfl ?_
  intro b1 w1 hb1 H
  refine tr_alloc H rfl (Try.zeroValue38 _) rfl rfl rfl rfl ?_
  intro b2 w2 hb2 H
  refine tr_nil (hK1 _ _ (TrC.keep [2, 1] ?_))
  show TrC _ _ _ _ [(2, _), (1, _)] _ _
  refine tr_seq (fun K2 hK2 => ?_)
  -- region 1: ref.go:86
  refine tr_region ?_
  refine tr_alloc H rfl (Try.zeroValue38 _) rfl rfl rfl rfl ?_
  intro b3 w3 hb3 H
  refine tr_nil (hK2 _ _ (TrC.keep [3, 2, 1] ?_))
  show TrC _ _ _ _ [(3, _), (2, _), (1, _)] _ _
  refine tr_seq (fun K3 hK3 => ?_)
  refine tr_seq (fun K4 hK4 => ?_)
  -- region 2: ref.go:87
  refine tr_region ?_
  refine tr_val (ov_assign rfl rfl) rfl rfl rfl ?_
  refine tr_nil (hK4 _ _ (TrC.keep [4, 3, 2, 1] ?_))
  show TrC _ _ _ _ [(4, _), (3, _), (2, _), (1, _)] _ _
  refine tr_block ?_
  refine tr_loop_ (X := Int) [3, 2, 1] (fun i => [(4, .int .i64 i)]) (fun i w' => 0 ≤ i ∧ i ≤ W.length ∧ SH w noBlocks [blk b3 38 ((spreadA now ((W.take i.toNat).map plainR)).map fun n : Int => Value.int .i64 n), blk b2 38 [.int .i64 0, .int .i64 0, .int .i64 0, .int .i64 0, .int .i64 0], blk b1 48 [.int .i64 now, .slice B (W).length c]] w') (fun i => (W.length - i).toNat) (0) (Sub.cons rfl (Sub.cons rfl (Sub.cons rfl (Sub.cons rfl Sub.nil)))) (⟨by omega, by omega, H⟩) ?_
  rintro i w4 ⟨hi0, hi1, H⟩ K5 hK5
  show TrC _ _ _ _ [(4, _), (3, _), (2, _), (1, _)] _ _
  refine tr_seq (fun K6 hK6 => ?_)
  refine tr_seq (fun K7 hK7 => ?_)
  -- region 3: ref.go:87
  refine tr_region ?_
  refine tr_val (ov_move rfl rfl) rfl rfl rfl ?_
  refine tr_val (ov_fieldAddr rfl Try.underlying48 rfl (Try.sizeOf46 _) (by decide) rfl) rfl rfl rfl ?_
  refine tr_val (ov_load_blk H.get2 rfl (Try.isAgg46 _) rfl rfl rfl) rfl rfl rfl ?_
  refine tr_val (ov_len rfl rfl Try.underlying46 rfl) rfl rfl rfl ?_
  refine tr_val (ov_lss rfl rfl rfl) rfl rfl rfl ?_
  refine tr_nil (hK7 _ _ (TrC.keep [10, 4, 3, 2, 1] ?_))
  show TrC _ _ _ _ [(10, _), (4, _), (3, _), (2, _), (1, _)] _ _
  refine tr_cond rfl (fun c10 => ?_) (fun c10 => ?_)
  · skip
    refine tr_skip (hK6 _ _ (TrC.keep [10, 4, 3, 2, 1] ?_))
    show TrC _ _ _ _ [(10, _), (4, _), (3, _), (2, _), (1, _)] _ _
    refine tr_seq (fun K8 hK8 => ?_)
    refine tr_block ?_
    refine tr_seq (fun K9 hK9 => ?_)
    -- region 5: ref.go:88
    have hdi := hd _ (gt_mem (L := W) hi0 (by omega))
    have hpr := place_rng now (gt W i).due
    have hpq : plcR now (gt W i).due = (placeV now (gt W i).due).1 := rfl
    have hsr := spread_rng (now := now) (X := (W.take i.toNat).map plainR) (i := plcR now (gt W i).due) (by omega) (by omega)
    rw [List.length_map, List.length_take] at hsr
    refine tr_quiet mixed (by kernel_rfl) H ?_
    refine tq_val (fun _ H => ov_fieldAddr rfl Try.underlying48 rfl (Try.sizeOf2 _) (by decide) rfl) rfl rfl rfl ?_
    refine tq_val (fun _ H => ov_load_blk H.get2 rfl (Try.isAgg2 _) rfl rfl rfl) rfl rfl rfl ?_
    refine tq_val (fun _ H => ov_fieldAddr rfl Try.underlying48 rfl (Try.sizeOf46 _) (by decide) rfl) rfl rfl rfl ?_
    refine tq_val (fun _ H => ov_load_blk H.get2 rfl (Try.isAgg46 _) rfl rfl rfl) rfl rfl rfl ?_
    refine tq_val (fun _ H => ov_move rfl rfl) rfl rfl rfl ?_
    refine tq_val (fun _ H => ov_indexAddrR (H.rd0 hR) rfl Try.underlying46 (Try.sizeOf59 _) rfl rfl (by omega) (by omega)) rfl rfl rfl ?_
    refine tq_val (fun _ H => ov_fieldAddr rfl Try.underlying59 rfl (Try.sizeOf2 _) (by decide) rfl) rfl rfl rfl ?_
    refine tq_val (fun _ H => ld_RThing_2 (H.rd0 hR) rfl (Try.isAgg2 _) rfl (by omega) (by omega)) rfl rfl rfl ?_
    refine tq_call (fun _ H => (placeR_c now (gt W i).due _ hn hdi).mono (fun _ _ hq => ⟨hq.1, H.call0n hq.2⟩)) rfl rfl rfl Try.call69 rfl rfl rfl ?_
    refine tq_val (fun _ H => ov_assign rfl rfl) rfl rfl rfl ?_
    refine tq_nil ?_
    intro w5 H
    refine hK9 _ _ (TrC.keep [5, 10, 4, 3, 2, 1] ?_)
    show TrC _ _ _ _ [(5, _), (10, _), (4, _), (3, _), (2, _), (1, _)] _ _
    -- region 6: ref.go:89
    refine tr_region ?_
    refine tr_val (ov_move rfl rfl) rfl rfl rfl ?_
    refine tr_val (ov_move rfl rfl) rfl rfl rfl ?_
    refine tr_val (ov_indexAddrA rfl Try.underlying38 (Try.sizeOf3 _) rfl rfl (by omega) (by omega)) rfl rfl rfl ?_
    refine tr_val (ov_load_blk H.get0 rfl (Try.isAgg3 _) rfl (by rw [add_lit, Nat.zero_add, Nat.mul_one]) (spread_at (X := (W.take i.toNat).map plainR) (i := plcR now (gt W i).due) (by omega) (by omega))) rfl rfl rfl ?_
    refine tr_val (ov_add rfl rfl rfl (w64 (by omega))) rfl rfl rfl ?_
    refine tr_val (ov_indexAddrA rfl Try.underlying38 (Try.sizeOf3 _) rfl rfl (by omega) (by omega)) rfl rfl rfl ?_
    refine tr_store (b := b3) (j := (plcR now (gt W i).due).toNat) H.get0 rfl (Try.sizeOf3 _) rfl (by rw [add_lit, Nat.zero_add, Nat.mul_one]) rfl rfl (Nat.blt_eq.mpr (by show (plcR now (gt W i).due).toNat < 5; omega)) rfl rfl ?_
    intro w9 U
    have U : Upd _ _ (blk b3 38 (((spreadA now ((W.take i.toNat).map plainR)).map fun n : Int => Value.int .i64 n).set (plcR now (plainR (gt W i)).due).toNat (.int .i64 (gt (spreadA now ((W.take i.toNat).map plainR)) (plcR now (plainR (gt W i)).due) + 1)))) _ := U
    rw [spread_snoc, ← plain_snoc hi0 (by omega)] at U
    have H := H.upd0 U; clear U
    refine tr_nil (hK8 _ _ (TrC.keep [10, 4, 3, 2, 1] ?_))
    show TrC _ _ _ _ [(10, _), (4, _), (3, _), (2, _), (1, _)] _ _
    -- region 4: ref.go:87
    refine tr_region ?_
    refine tr_val (ov_move rfl rfl) rfl rfl rfl ?_
    refine tr_val (ov_add rfl rfl rfl (w64 (by omega))) rfl rfl rfl ?_
    refine tr_val (ov_assign rfl rfl) rfl rfl rfl ?_
    skip
    exact tr_nil (hK5 (i + 1) _ _ (⟨by omega, by omega, H⟩) (by omega) (Sub.cons rfl (Sub.cons rfl (Sub.cons rfl (Sub.cons rfl Sub.nil)))))
  · skip
    refine tr_exit (hK3 _ _ (TrC.keep [10, 4, 3, 2, 1] ?_))
    show TrC _ _ _ _ [(10, _), (4, _), (3, _), (2, _), (1, _)] _ _
    refine tr_seq (fun K10 hK10 => ?_)
    -- region 7: ref.go:91
    have e : W.take i.toNat = W := List.take_of_length_le (by omega)
    rw [e] at H
    refine tr_region ?_
    refine tr_val (ov_load_blkP (vs := ((spreadA now (W.map plainR)).map fun n : Int => Value.int .i64 n)) H.get0 rfl (Try.isAgg38 _) (Try.sizeOf38 _) rfl rfl rfl rfl) rfl rfl rfl ?_
    (refine tr_storeW H.get1 rfl (Try.sizeOf38 _) rfl rfl rfl rfl rfl rfl rfl rfl ?_; intro w6 U; have H := H.upd1 U; clear U)
    refine tr_nil (hK10 _ _ (TrC.keep [10, 4, 3, 2, 1] ?_))
    show TrC _ _ _ _ [(10, _), (4, _), (3, _), (2, _), (1, _)] _ _
    refine tr_ret (post_ret1 (.inr rfl) rfl (by exact ⟨_, rfl, res_blkN H.get1 (Try.isAgg38 _) (Try.sizeOf38 _) rfl rfl⟩) ?_)
    exact ⟨rfl, H.drop0.drop0.drop0⟩

def NewL (B : Option Addr) (c : Nat) (W : List RThing) (A' : Option Addr) (c' : Nat) (W' : List RThing) (w w' : World) : Prop :=
  (A' = B ∧ c' = c ∧ W' = W ∧ SH w noBlocks [] w') ∨ SH w noBlocks [vec A' c' 59 4 encRThing W'] w'
theorem NewL.own {B A' : Option Addr} {c c' : Nat} {W W' : List RThing} {w w' : World} (h : NewL B c W A' c' W' w w') (hO : (rdr B 4 (W.map encRThing)).holds w) (hc : W.length ≤ c) : W'.length ≤ c' ∧ SH w (rdr B 4 (W.map encRThing)).foot [rdr A' 4 (W'.map encRThing)] w' := by
  rcases h with ⟨rfl, rfl, rfl, H⟩ | H
  · exact ⟨hc, (SH.own1 hO).call0n H⟩
  · have H2 := (SH.own1 hO).call0r H
    exact ⟨vec_len H2.get0, (H2.upd0 (upd_rdr_of_vec H2.get0 lenRThing (by decide))).drop1⟩

/-! curfew/curfewref12.Cancel -/
set_option maxRecDepth 20000 in
theorem CancelR_c (B : Option Addr) (c : Nat) (W : List RThing) (now : Int) (w : World) (hR : Rd w B 4 (W.map encRThing)) (hW : W.length ≤ 60000) (hc : W.length ≤ c) (id : Int) : Does Try.prog 64 #[.agg #[.int .i64 now, .slice B (W).length c], .int .u64 id] w (fun v w' => ∃ A' c', v = .tuple #[.agg #[.int .i64 now, .slice A' ((dropR id W)).length c'], .agg #[.int .u64 (rOr (findR id W)).id, .int .u64 (rOr (findR id W)).gen, .int .i64 (rOr (findR id W)).due, .int .i64 (rOr (findR id W)).slot], .bool (findR id W).isSome] ∧ NewL B c W A' c' (dropR id W) w w') := by
  refine does_enter2 Try.func64 rfl Try.ntmps64 rfl ?_
  have H := SH.start w noBlocks
  refine tr_seq (fun K1 hK1 => ?_)
  -- region 0: ref.go:36
  refine tr_region ?_
  refine tr_box H rfl rfl rfl rfl rfl rfl ?_
  intro b1 w1 hb1 H
  refine tr_alloc H rfl (Try.zeroValue48 _) rfl rfl rfl rfl ?_
  intro b2 w2 hb2 H
  refine tr_alloc H rfl (Try.zeroValue59 _) rfl rfl rfl rfl ?_
  intro b3 w3 hb3 H
  refine tr_val (ov_assign rfl rfl) rfl rfl rfl ?_
  refine tr_nil (hK1 _ _ (TrC.keep [6, 5, 4, 2, 1] ?_))
  show TrC _ _ _ _ [(6, _), (5, _), (4, _), (2, _), (1, _)] _ _
  refine tr_seq (fun K2 hK2 => ?_)
  -- region 1: ref.go:37
  refine tr_region ?_
  refine tr_val (ov_fieldAddr rfl Try.underlying48 rfl (Try.sizeOf46 _) (by decide) rfl) rfl rfl rfl ?_
  refine tr_val (ov_load_blk H.get2 rfl (Try.isAgg46 _) rfl rfl rfl) rfl rfl rfl ?_
  refine tr_val (ov_move rfl rfl) rfl rfl rfl ?_
  refine tr_call (FindR_c B c W _ (H.rd0 hR) (by omega) id) rfl rfl rfl Try.call67 rfl rfl rfl ?_
  rintro _ w4 ⟨rfl, HC⟩
  have H := H.call0n HC
  refine tr_val (ov_assign rfl rfl) rfl rfl rfl ?_
  refine tr_nil (hK2 _ _ (TrC.keep [7, 6, 5, 4, 2, 1] ?_))
  show TrC _ _ _ _ [(7, _), (6, _), (5, _), (4, _), (2, _), (1, _)] _ _
  refine tr_seq (fun K3 hK3 => ?_)
  refine tr_seq (fun K4 hK4 => ?_)
  -- region 2: ref.go:38
  refine tr_region ?_
  refine tr_val (ov_move rfl rfl) rfl rfl rfl ?_
  refine tr_val (ov_lss rfl rfl rfl) rfl rfl rfl ?_
  refine tr_nil (hK4 _ _ (TrC.keep [14, 7, 6, 5, 4, 2, 1] ?_))
  show TrC _ _ _ _ [(14, _), (7, _), (6, _), (5, _), (4, _), (2, _), (1, _)] _ _
  refine tr_cond rfl (fun c14 => ?_) (fun c14 => ?_)
  · skip
    refine tr_seq (fun K5 hK5 => ?_)
    -- region 3: ref.go:39
    have hn := idxR_neg c14
    refine tr_region ?_
    refine tr_val (ov_load_blkN H.get2 rfl (Try.isAgg48 _) (Try.sizeOf48 _) rfl rfl rfl) rfl rfl rfl ?_
    refine tr_val (ov_build rfl (fun ρ k => bs0 k) (bld59 _)) rfl rfl rfl ?_
    (refine tr_storeW H.get1 rfl (Try.sizeOf48 _) rfl rfl rfl rfl rfl rfl rfl rfl ?_; intro w5 U; have H := H.upd1 U; clear U)
    (refine tr_storeW H.get0 rfl (Try.sizeOf59 _) rfl rfl rfl rfl rfl rfl rfl rfl ?_; intro w6 U; have H := H.upd0 U; clear U)
    refine tr_val (ov_assign rfl rfl) rfl rfl rfl ?_
    refine tr_nil (hK5 _ _ (TrC.keep [6, 14, 7, 5, 4, 2, 1] ?_))
    show TrC _ _ _ _ [(6, _), (14, _), (7, _), (5, _), (4, _), (2, _), (1, _)] _ _
    refine tr_ret (post_ret3 (.inr rfl) rfl (by exact ⟨_, rfl, res_blkN H.get1 (Try.isAgg48 _) (Try.sizeOf48 _) rfl rfl⟩) (by exact ⟨_, rfl, res_blkN H.get0 (Try.isAgg59 _) (Try.sizeOf59 _) rfl rfl⟩) rfl ?_)
    rw [dropR_none hn, hn]
    exact ⟨B, c, rfl, .inl ⟨rfl, rfl, rfl, H.drop0.drop0.drop0⟩⟩
  · skip
    refine tr_skip (hK3 _ _ (TrC.keep [14, 7, 6, 5, 4, 2, 1] ?_))
    show TrC _ _ _ _ [(14, _), (7, _), (6, _), (5, _), (4, _), (2, _), (1, _)] _ _
    refine tr_seq (fun K6 hK6 => ?_)
    -- region 4: ref.go:41
    obtain ⟨r, hf⟩ := idxR_pos c14
    obtain ⟨hi0, hi1, hi2, hi3⟩ := idxR_some hf
    refine tr_region ?_
    refine tr_val (ov_fieldAddr rfl Try.underlying48 rfl (Try.sizeOf46 _) (by decide) rfl) rfl rfl rfl ?_
    refine tr_val (ov_load_blk H.get2 rfl (Try.isAgg46 _) rfl rfl rfl) rfl rfl rfl ?_
    refine tr_val (ov_move rfl rfl) rfl rfl rfl ?_
    refine tr_val (ov_indexAddrR (H.rd0 hR) rfl Try.underlying46 (Try.sizeOf59 _) rfl rfl (by omega) (by omega)) rfl rfl rfl ?_
    refine tr_val (ld_RThing (H.rd0 hR) rfl (Try.isAgg59 _) (Try.sizeOf59 _) rfl (by omega) (by omega)) rfl rfl rfl ?_
    refine tr_alloc H rfl (Try.zeroValue59 _) rfl rfl rfl rfl ?_
    intro b4 w7 hb4 H
    (refine tr_storeW H.get0 rfl (Try.sizeOf59 _) rfl rfl rfl rfl rfl rfl rfl rfl ?_; intro w8 U; have H := H.upd0 U; clear U)
    refine tr_nil (hK6 _ _ (TrC.keep [8, 14, 7, 6, 5, 4, 2, 1] ?_))
    show TrC _ _ _ _ [(8, _), (14, _), (7, _), (6, _), (5, _), (4, _), (2, _), (1, _)] _ _
    refine tr_seq (fun K7 hK7 => ?_)
    -- region 5: ref.go:42
    refine tr_region ?_
    refine tr_val (ov_fieldAddr rfl Try.underlying48 rfl (Try.sizeOf46 _) (by decide) rfl) rfl rfl rfl ?_
    refine tr_val (ov_load_blk H.get3 rfl (Try.isAgg46 _) rfl rfl rfl) rfl rfl rfl ?_
    refine tr_val (ov_move rfl rfl) rfl rfl rfl ?_
    refine tr_call (Without_c B c W _ (H.rd0 hR) (by omega) hc (idxR id W) hi0 hi1) rfl rfl rfl Try.call104 rfl rfl rfl ?_
    rintro _ w9 ⟨A3, c3, rfl, HC⟩
    have H := H.call0r HC
    rw [← hi3] at H ⊢
    refine tr_val (ov_fieldAddr rfl Try.underlying48 rfl (Try.sizeOf46 _) (by decide) rfl) rfl rfl rfl ?_
    (refine tr_store H.get4 rfl (Try.sizeOf46 _) rfl rfl rfl rfl rfl rfl rfl ?_; intro w10 U; have H := H.upd4 U; clear U)
    try simp only [List.set_cons_zero, List.set_cons_succ, Nat.zero_add] at H
    refine tr_nil (hK7 _ _ (TrC.keep [8, 14, 7, 6, 5, 4, 2, 1] ?_))
    show TrC _ _ _ _ [(8, _), (14, _), (7, _), (6, _), (5, _), (4, _), (2, _), (1, _)] _ _
    refine tr_seq (fun K8 hK8 => ?_)
    -- region 6: ref.go:43
    refine tr_held (fun w' => (blk b4 59 [.int .u64 (gt W (idxR id W)).id, .int .u64 (gt W (idxR id W)).gen, .int .i64 (gt W (idxR id W)).due, .int .i64 (gt W (idxR id W)).slot]).holds w' ∧ (blk b1 48 [.int .i64 now, .slice A3 ((dropR id W)).length c3]).holds w') mixed rfl H ?_
    intro w11 H
    refine th_take 0 rfl (by kernel_rfl) (by kernel_rfl) (by kernel_rfl) ((by exact ⟨H.get1, H.get4⟩)) (fun _ hS => ov_load_blkN hS.2 rfl (Try.isAgg48 _) (Try.sizeOf48 _) rfl rfl rfl) rfl rfl rfl ?_
    refine th_take 1 rfl (by kernel_rfl) (by kernel_rfl) (by kernel_rfl) ((by exact ⟨H.get1, H.get4⟩)) (fun _ hS => ov_load_blkN hS.1 rfl (Try.isAgg59 _) (Try.sizeOf59 _) rfl rfl rfl) rfl rfl rfl ?_
    refine th_one 2 (by kernel_rfl) ?_
    (refine tw_storeW H.get3 rfl rfl (Try.sizeOf48 _) rfl rfl rfl rfl rfl rfl rfl rfl ?_; intro w12 U; have H := H.upd3 U; clear U)
    refine ⟨(by exact ⟨H.get1, H.get4⟩), ?_⟩
    refine th_one 3 (by kernel_rfl) ?_
    (refine tw_storeW H.get2 rfl rfl (Try.sizeOf59 _) rfl rfl rfl rfl rfl rfl rfl rfl ?_; intro w13 U; have H := H.upd2 U; clear U)
    refine ⟨(by exact ⟨H.get1, H.get4⟩), ?_⟩
    refine th_take 4 rfl (by kernel_rfl) (by kernel_rfl) (by kernel_rfl) ((by exact ⟨H.get1, H.get4⟩)) (fun _ hS => ov_assign rfl rfl) rfl rfl rfl ?_
    refine th_done (by kernel_rfl) ?_
    refine hK8 _ _ (TrC.keep [6, 8, 14, 7, 5, 4, 2, 1] ?_)
    show TrC _ _ _ _ [(6, _), (8, _), (14, _), (7, _), (5, _), (4, _), (2, _), (1, _)] _ _
    refine tr_ret (post_ret3 (.inr rfl) rfl (by exact ⟨_, rfl, res_blkN H.get3 (Try.isAgg48 _) (Try.sizeOf48 _) rfl rfl⟩) (by exact ⟨_, rfl, res_blkN H.get2 (Try.isAgg59 _) (Try.sizeOf59 _) rfl rfl⟩) rfl ?_)
    rw [hf]
    exact ⟨A3, c3, by rw [hi2]; rfl, .inr (H.drop1.drop1.drop1.drop1)⟩

def armR (W : List RThing) (t : RThing) : List RThing × Int := if ¬ (0 ≤ t.due ∧ t.due ≤ 1125899906842624) then (W, 2) else if (findR t.id W).isSome then (W, 32) else if 256 ≤ W.length then (W, 30) else (sortR (W ++ [t]), 0)
theorem armR_z {X : List Thing} (t : Thing) : armR (zR X) (toR t 0) = (zR (if (armV X t).2 = 0 then sortT (X ++ [t]) else X), (armV X t).2) := by
  unfold armR armV
  rw [zR_snoc, sortR_z, zR_len]
  have h1 : (findR (toR t 0).id (zR X)).isSome = (findT t.id X).isSome := by rw [findR_z]; simp [toR]
  rw [h1]
  show (if ¬ (0 ≤ t.due ∧ t.due ≤ 1125899906842624) then _ else _) = _
  by_cases q1 : ¬ (0 ≤ t.due ∧ t.due ≤ 1125899906842624)
  · rw [if_pos q1, if_pos q1]; rfl
  · rw [if_neg q1, if_neg q1]
    by_cases q2 : (findT t.id X).isSome = true
    · rw [if_pos q2, if_pos q2]; rfl
    · rw [if_neg q2, if_neg q2]
      by_cases q3 : 256 ≤ X.length
      · rw [if_pos q3, if_pos q3]; rfl
      · rw [if_neg q3, if_neg q3]; rfl

/-! curfew/curfewref12.Arm -/
set_option maxRecDepth 20000 in
theorem ArmR_c (B : Option Addr) (c : Nat) (W : List RThing) (now : Int) (w : World) (hR : Rd w B 4 (W.map encRThing)) (hW : W.length ≤ 60000) (t : RThing) : Does Try.prog 68 #[.agg #[.int .i64 now, .slice B (W).length c], .agg #[.int .u64 t.id, .int .u64 t.gen, .int .i64 t.due, .int .i64 t.slot]] w (fun v w' => ∃ A' c', v = .tuple #[.agg #[.int .i64 now, .slice A' ((armR W t).1).length c'], .int .i64 (armR W t).2] ∧ NewL B c W A' c' (armR W t).1 w w') := by
  refine does_enter2 Try.func68 rfl Try.ntmps68 rfl ?_
  have H := SH.start w noBlocks
  refine tr_seq (fun K1 hK1 => ?_)
  -- region 0: ref.go:21
  refine tr_region ?_
  refine tr_box H rfl rfl rfl rfl rfl rfl ?_
  intro b1 w1 hb1 H
  refine tr_box H rfl rfl rfl rfl rfl rfl ?_
  intro b2 w2 hb2 H
  refine tr_alloc H rfl (Try.zeroValue48 _) rfl rfl rfl rfl ?_
  intro b3 w3 hb3 H
  refine tr_val (ov_assign rfl rfl) rfl rfl rfl ?_
  refine tr_nil (hK1 _ _ (TrC.keep [5, 4, 3, 2] ?_))
  show TrC _ _ _ _ [(5, _), (4, _), (3, _), (2, _)] _ _
  refine tr_seq (fun K2 hK2 => ?_)
  refine tr_seq (fun K3 hK3 => ?_)
  -- region 1: ref.go:22
  refine tr_region ?_
  refine tr_val (ov_fieldAddr rfl Try.underlying59 rfl (Try.sizeOf2 _) (by decide) rfl) rfl rfl rfl ?_
  refine tr_val (ov_load_blk H.get1 rfl (Try.isAgg2 _) rfl rfl rfl) rfl rfl rfl ?_
  refine tr_val (ov_lss rfl rfl rfl) rfl rfl rfl ?_
  refine tr_val (ov_move rfl rfl) rfl rfl rfl ?_
  refine tr_split (t := 9) rfl (fun s9 => ?_) (fun s9 => ?_)
  · skip
    refine tr_pass rfl rfl rfl ?_
    refine tr_pass rfl rfl rfl ?_
    refine tr_pass rfl rfl rfl ?_
    refine tr_val (ov_pick (vb := undef) rfl rfl rfl rfl) rfl rfl rfl ?_
    refine tr_nil (hK3 _ _ (TrC.keep [13, 5, 4, 3, 2] ?_))
    show TrC _ _ _ _ [(13, _), (5, _), (4, _), (3, _), (2, _)] _ _
    refine tr_cond_t rfl rfl ?_
    refine tr_seq (fun K4 hK4 => ?_)
    -- region 2: ref.go:23
    refine tr_region ?_
    refine tr_val (ov_load_blkN H.get2 rfl (Try.isAgg48 _) (Try.sizeOf48 _) rfl rfl rfl) rfl rfl rfl ?_
    (refine tr_storeW H.get0 rfl (Try.sizeOf48 _) rfl rfl rfl rfl rfl rfl rfl rfl ?_; intro w4 U; have H := H.upd0 U; clear U)
    refine tr_val (ov_assign rfl rfl) rfl rfl rfl ?_
    refine tr_nil (hK4 _ _ (TrC.keep [5, 13, 4, 3, 2] ?_))
    show TrC _ _ _ _ [(5, _), (13, _), (4, _), (3, _), (2, _)] _ _
    refine tr_ret (post_ret2 (.inr rfl) rfl (by exact ⟨_, rfl, res_blkN H.get0 (Try.isAgg48 _) (Try.sizeOf48 _) rfl rfl⟩) rfl ?_)
    unfold armR; rw [if_pos (by omega)]; exact ⟨B, c, rfl, .inl ⟨rfl, rfl, rfl, H.drop0.drop0.drop0⟩⟩
  · skip
    refine tr_val (ov_fieldAddr rfl Try.underlying59 rfl (Try.sizeOf2 _) (by decide) rfl) rfl rfl rfl ?_
    refine tr_val (ov_load_blk H.get1 rfl (Try.isAgg2 _) rfl rfl rfl) rfl rfl rfl ?_
    refine tr_val (ov_gtr rfl rfl rfl) rfl rfl rfl ?_
    refine tr_val (ov_pick_f (va := undef) rfl rfl rfl rfl) rfl rfl rfl ?_
    refine tr_nil (hK3 _ _ (TrC.keep [13, 5, 4, 3, 2] ?_))
    show TrC _ _ _ _ [(13, _), (5, _), (4, _), (3, _), (2, _)] _ _
    refine tr_cond rfl (fun c13 => ?_) (fun c13 => ?_)
    · skip
      refine tr_seq (fun K5 hK5 => ?_)
      -- region 2: ref.go:23
      refine tr_region ?_
      refine tr_val (ov_load_blkN H.get2 rfl (Try.isAgg48 _) (Try.sizeOf48 _) rfl rfl rfl) rfl rfl rfl ?_
      (refine tr_storeW H.get0 rfl (Try.sizeOf48 _) rfl rfl rfl rfl rfl rfl rfl rfl ?_; intro w5 U; have H := H.upd0 U; clear U)
      refine tr_val (ov_assign rfl rfl) rfl rfl rfl ?_
      refine tr_nil (hK5 _ _ (TrC.keep [5, 13, 4, 3, 2] ?_))
      show TrC _ _ _ _ [(5, _), (13, _), (4, _), (3, _), (2, _)] _ _
      refine tr_ret (post_ret2 (.inr rfl) rfl (by exact ⟨_, rfl, res_blkN H.get0 (Try.isAgg48 _) (Try.sizeOf48 _) rfl rfl⟩) rfl ?_)
      unfold armR; rw [if_pos (by omega)]; exact ⟨B, c, rfl, .inl ⟨rfl, rfl, rfl, H.drop0.drop0.drop0⟩⟩
    · skip
      refine tr_skip (hK2 _ _ (TrC.keep [13, 5, 4, 3, 2] ?_))
      show TrC _ _ _ _ [(13, _), (5, _), (4, _), (3, _), (2, _)] _ _
      refine tr_seq (fun K6 hK6 => ?_)
      refine tr_seq (fun K7 hK7 => ?_)
      -- region 3: ref.go:25
      refine tr_region ?_
      refine tr_val (ov_fieldAddr rfl Try.underlying48 rfl (Try.sizeOf46 _) (by decide) rfl) rfl rfl rfl ?_
      refine tr_val (ov_load_blk H.get2 rfl (Try.isAgg46 _) rfl rfl rfl) rfl rfl rfl ?_
      refine tr_val (ov_fieldAddr rfl Try.underlying59 rfl (Try.sizeOf28 _) (by decide) rfl) rfl rfl rfl ?_
      refine tr_val (ov_load_blk H.get1 rfl (Try.isAgg28 _) rfl rfl rfl) rfl rfl rfl ?_
      refine tr_call (FindR_c B c W _ (H.rd0 hR) (by omega) t.id) rfl rfl rfl Try.call67 rfl rfl rfl ?_
      rintro _ w6 ⟨rfl, HC⟩
      have H := H.call0n HC
      refine tr_val (ov_geq rfl rfl rfl) rfl rfl rfl ?_
      refine tr_nil (hK7 _ _ (TrC.keep [20, 13, 5, 4, 3, 2] ?_))
      show TrC _ _ _ _ [(20, _), (13, _), (5, _), (4, _), (3, _), (2, _)] _ _
      refine tr_cond rfl (fun c20 => ?_) (fun c20 => ?_)
      · skip
        refine tr_seq (fun K8 hK8 => ?_)
        -- region 4: ref.go:26
        refine tr_region ?_
        refine tr_val (ov_load_blkN H.get2 rfl (Try.isAgg48 _) (Try.sizeOf48 _) rfl rfl rfl) rfl rfl rfl ?_
        (refine tr_storeW H.get0 rfl (Try.sizeOf48 _) rfl rfl rfl rfl rfl rfl rfl rfl ?_; intro w7 U; have H := H.upd0 U; clear U)
        refine tr_val (ov_assign rfl rfl) rfl rfl rfl ?_
        refine tr_nil (hK8 _ _ (TrC.keep [5, 20, 13, 4, 3, 2] ?_))
        show TrC _ _ _ _ [(5, _), (20, _), (13, _), (4, _), (3, _), (2, _)] _ _
        refine tr_ret (post_ret2 (.inr rfl) rfl (by exact ⟨_, rfl, res_blkN H.get0 (Try.isAgg48 _) (Try.sizeOf48 _) rfl rfl⟩) rfl ?_)
        obtain ⟨r, hr⟩ := idxR_pos (W := W) (id := t.id) (by omega)
        unfold armR; rw [if_neg (by omega), if_pos (by rw [hr]; rfl)]; exact ⟨B, c, rfl, .inl ⟨rfl, rfl, rfl, H.drop0.drop0.drop0⟩⟩
      · skip
        refine tr_skip (hK6 _ _ (TrC.keep [20, 13, 5, 4, 3, 2] ?_))
        show TrC _ _ _ _ [(20, _), (13, _), (5, _), (4, _), (3, _), (2, _)] _ _
        refine tr_seq (fun K9 hK9 => ?_)
        refine tr_seq (fun K10 hK10 => ?_)
        -- region 5: ref.go:28
        have hfn := idxR_neg (W := W) (id := t.id) (by omega)
        refine tr_region ?_
        refine tr_val (ov_fieldAddr rfl Try.underlying48 rfl (Try.sizeOf46 _) (by decide) rfl) rfl rfl rfl ?_
        refine tr_val (ov_load_blk H.get2 rfl (Try.isAgg46 _) rfl rfl rfl) rfl rfl rfl ?_
        refine tr_val (ov_len rfl rfl Try.underlying46 rfl) rfl rfl rfl ?_
        refine tr_val (ov_geq rfl rfl rfl) rfl rfl rfl ?_
        refine tr_nil (hK10 _ _ (TrC.keep [25, 20, 13, 5, 4, 3, 2] ?_))
        show TrC _ _ _ _ [(25, _), (20, _), (13, _), (5, _), (4, _), (3, _), (2, _)] _ _
        refine tr_cond rfl (fun c25 => ?_) (fun c25 => ?_)
        · skip
          refine tr_seq (fun K11 hK11 => ?_)
          -- region 6: ref.go:29
          refine tr_region ?_
          refine tr_val (ov_load_blkN H.get2 rfl (Try.isAgg48 _) (Try.sizeOf48 _) rfl rfl rfl) rfl rfl rfl ?_
          (refine tr_storeW H.get0 rfl (Try.sizeOf48 _) rfl rfl rfl rfl rfl rfl rfl rfl ?_; intro w8 U; have H := H.upd0 U; clear U)
          refine tr_val (ov_assign rfl rfl) rfl rfl rfl ?_
          refine tr_nil (hK11 _ _ (TrC.keep [5, 25, 20, 13, 4, 3, 2] ?_))
          show TrC _ _ _ _ [(5, _), (25, _), (20, _), (13, _), (4, _), (3, _), (2, _)] _ _
          refine tr_ret (post_ret2 (.inr rfl) rfl (by exact ⟨_, rfl, res_blkN H.get0 (Try.isAgg48 _) (Try.sizeOf48 _) rfl rfl⟩) rfl ?_)
          unfold armR; rw [if_neg (by omega), if_neg (by rw [hfn]; decide), if_pos (by omega)]; exact ⟨B, c, rfl, .inl ⟨rfl, rfl, rfl, H.drop0.drop0.drop0⟩⟩
        · skip
          refine tr_skip (hK9 _ _ (TrC.keep [25, 20, 13, 5, 4, 3, 2] ?_))
          show TrC _ _ _ _ [(25, _), (20, _), (13, _), (5, _), (4, _), (3, _), (2, _)] _ _
          refine tr_seq (fun K12 hK12 => ?_)
          -- region 7: ref.go:31
          refine tr_held (fun w' => (blk b2 59 [.int .u64 t.id, .int .u64 t.gen, .int .i64 t.due, .int .i64 t.slot]).holds w') mixed rfl H ?_
          intro w9 H
          refine th_take 1 rfl (by kernel_rfl) (by kernel_rfl) (by kernel_rfl) ((by exact H.get1)) (fun _ hS => ov_fieldAddr rfl Try.underlying48 rfl (Try.sizeOf46 _) (by decide) rfl) rfl rfl rfl ?_
          refine th_take 4 rfl (by kernel_rfl) (by kernel_rfl) (by kernel_rfl) ((by exact H.get1)) (fun _ hS => ov_load_blkN hS rfl (Try.isAgg59 _) (Try.sizeOf59 _) rfl rfl rfl) rfl rfl rfl ?_
          refine th_three 0 2 5 (by kernel_rfl) ?_ ?_ ?_
          · skip
            refine tw_buildSlice0 H rfl rfl Try.underlying46 info59 rfl rfl rfl ?_
            intro b6 w16 hb6 H
            have H := H.upd0 (upd_vec_of_blk (L := ([] : List RThing)) (enc := encRThing) (sz := 4) H.get0 rfl lenRThing (by simp))
            refine ⟨(by exact H.get2), ?_⟩
            refine th_two 2 5 (by kernel_rfl) ?_ ?_
            · skip
              refine tw_val (ov_load_blk H.get3 rfl (Try.isAgg46 _) rfl rfl rfl) rfl ((by exact H.get2)) rfl rfl rfl ?_
              refine th_two 3 5 (by kernel_rfl) ?_ ?_
              · skip
                (refine tw_append (M := W) (L := ([] : List RThing)) H.get0 (H.rd0 hR) rfl rfl rfl rfl Try.underlying46 info59 rfl rfl (show Try.t59.bytes = 32 from rfl) rfl (by decide) lenRThing oneRThing (by rw [List.length_nil]; omega) (by rw [List.length_nil]; unfold maxLen; omega) rfl rfl rfl ?_; intro A2 c2 w20 U; have H := H.upd0 U; clear U; rw [List.nil_append] at H ⊢; refine ⟨(by exact H.get2), ?_⟩)
                refine th_one 5 (by kernel_rfl) ?_
                refine tw_buildSlice H rfl rfl Try.underlying46 info59 rfl (fun ρ k => bs1 k rfl) (by decide) (by decide) (fill_RThing_1 _ _ _ _) rfl rfl rfl ?_
                intro b7 w7 hb7 H
                refine ⟨(by exact H.get3), ?_⟩
                refine th_one 6 (by kernel_rfl) ?_
                (refine tw_append (M := [t]) (L := W) H.get1 (rd_blk [t] H.get0 rfl lenRThing) rfl rfl rfl rfl Try.underlying46 info59 rfl rfl (show Try.t59.bytes = 32 from rfl) rfl (by decide) lenRThing oneRThing (by rw [List.length_singleton]; omega) (by rw [List.length_singleton]; unfold maxLen; omega) rfl rfl rfl ?_; intro A3 c3 w30 U; have H := H.upd1 U; clear U; refine ⟨(by exact H.get3), ?_⟩)
                refine th_one 7 (by kernel_rfl) ?_
                refine tw_call (SortedR_c A3 c3 (W ++ [t]) _ (by exact vec_rd H.get1 lenRThing (by decide)) (by simp; omega)) rfl rfl rfl rfl Try.call105 rfl rfl rfl ?_
                rintro _ w10 ⟨A4, c4, rfl, HC⟩
                have H := H.call0r HC
                refine ⟨(by exact H.get4), ?_⟩
                refine th_take 8 rfl (by kernel_rfl) (by kernel_rfl) (by kernel_rfl) ((by exact H.get4)) (fun _ hS => ov_fieldAddr rfl Try.underlying48 rfl (Try.sizeOf46 _) (by decide) rfl) rfl rfl rfl ?_
                refine th_one 9 (by kernel_rfl) ?_
                (refine tw_store H.get5 rfl rfl (Try.sizeOf46 _) rfl rfl rfl rfl rfl rfl rfl ?_; intro w11 U; have H := H.upd5 U; clear U)
                try simp only [List.set_cons_zero, List.set_cons_succ, Nat.zero_add] at H
                refine ⟨(by exact H.get4), ?_⟩
                refine th_done (by kernel_rfl) ?_
                refine hK12 _ _ (TrC.keep [25, 20, 13, 5, 4, 3, 2] ?_)
                show TrC _ _ _ _ [(25, _), (20, _), (13, _), (5, _), (4, _), (3, _), (2, _)] _ _
                refine tr_seq (fun K13 hK13 => ?_)
                -- region 8: ref.go:32
                refine tr_region ?_
                refine tr_val (ov_load_blkN H.get5 rfl (Try.isAgg48 _) (Try.sizeOf48 _) rfl rfl rfl) rfl rfl rfl ?_
                (refine tr_storeW H.get3 rfl (Try.sizeOf48 _) rfl rfl rfl rfl rfl rfl rfl rfl ?_; intro w12 U; have H := H.upd3 U; clear U)
                refine tr_val (ov_assign rfl rfl) rfl rfl rfl ?_
                refine tr_nil (hK13 _ _ (TrC.keep [5, 25, 20, 13, 4, 3, 2] ?_))
                show TrC _ _ _ _ [(5, _), (25, _), (20, _), (13, _), (4, _), (3, _), (2, _)] _ _
                refine tr_ret (post_ret2 (.inr rfl) rfl (by exact ⟨_, rfl, res_blkN H.get3 (Try.isAgg48 _) (Try.sizeOf48 _) rfl rfl⟩) rfl ?_)
                unfold armR; rw [if_neg (by omega), if_neg (by rw [hfn]; decide), if_neg (by omega)]; exact ⟨A4, c4, rfl, .inr (by exact H.drop1.drop1.drop1.drop1.drop1)⟩
              · skip
                refine tw_buildSlice H rfl rfl Try.underlying46 info59 rfl (fun ρ k => bs1 k rfl) (by decide) (by decide) (fill_RThing_1 _ _ _ _) rfl rfl rfl ?_
                intro b7 w7 hb7 H
                refine ⟨(by exact H.get3), ?_⟩
                refine th_one 3 (by kernel_rfl) ?_
                (refine tw_append (M := W) (L := ([] : List RThing)) H.get1 (H.rd0 hR) rfl rfl rfl rfl Try.underlying46 info59 rfl rfl (show Try.t59.bytes = 32 from rfl) rfl (by decide) lenRThing oneRThing (by rw [List.length_nil]; omega) (by rw [List.length_nil]; unfold maxLen; omega) rfl rfl rfl ?_; intro A2 c2 w20 U; have H := H.upd1 U; clear U; rw [List.nil_append] at H ⊢; refine ⟨(by exact H.get3), ?_⟩)
                refine th_one 6 (by kernel_rfl) ?_
                (refine tw_append (M := [t]) (L := W) H.get1 (rd_blk [t] H.get0 rfl lenRThing) rfl rfl rfl rfl Try.underlying46 info59 rfl rfl (show Try.t59.bytes = 32 from rfl) rfl (by decide) lenRThing oneRThing (by rw [List.length_singleton]; omega) (by rw [List.length_singleton]; unfold maxLen; omega) rfl rfl rfl ?_; intro A3 c3 w30 U; have H := H.upd1 U; clear U; refine ⟨(by exact H.get3), ?_⟩)
                refine th_one 7 (by kernel_rfl) ?_
                refine tw_call (SortedR_c A3 c3 (W ++ [t]) _ (by exact vec_rd H.get1 lenRThing (by decide)) (by simp; omega)) rfl rfl rfl rfl Try.call105 rfl rfl rfl ?_
                rintro _ w13 ⟨A4, c4, rfl, HC⟩
                have H := H.call0r HC
                refine ⟨(by exact H.get4), ?_⟩
                refine th_take 8 rfl (by kernel_rfl) (by kernel_rfl) (by kernel_rfl) ((by exact H.get4)) (fun _ hS => ov_fieldAddr rfl Try.underlying48 rfl (Try.sizeOf46 _) (by decide) rfl) rfl rfl rfl ?_
                refine th_one 9 (by kernel_rfl) ?_
                (refine tw_store H.get5 rfl rfl (Try.sizeOf46 _) rfl rfl rfl rfl rfl rfl rfl ?_; intro w14 U; have H := H.upd5 U; clear U)
                try simp only [List.set_cons_zero, List.set_cons_succ, Nat.zero_add] at H
                refine ⟨(by exact H.get4), ?_⟩
                refine th_done (by kernel_rfl) ?_
                refine hK12 _ _ (TrC.keep [25, 20, 13, 5, 4, 3, 2] ?_)
                show TrC _ _ _ _ [(25, _), (20, _), (13, _), (5, _), (4, _), (3, _), (2, _)] _ _
                refine tr_seq (fun K14 hK14 => ?_)
                -- region 8: ref.go:32
                refine tr_region ?_
                refine tr_val (ov_load_blkN H.get5 rfl (Try.isAgg48 _) (Try.sizeOf48 _) rfl rfl rfl) rfl rfl rfl ?_
                (refine tr_storeW H.get3 rfl (Try.sizeOf48 _) rfl rfl rfl rfl rfl rfl rfl rfl ?_; intro w15 U; have H := H.upd3 U; clear U)
                refine tr_val (ov_assign rfl rfl) rfl rfl rfl ?_
                refine tr_nil (hK14 _ _ (TrC.keep [5, 25, 20, 13, 4, 3, 2] ?_))
                show TrC _ _ _ _ [(5, _), (25, _), (20, _), (13, _), (4, _), (3, _), (2, _)] _ _
                refine tr_ret (post_ret2 (.inr rfl) rfl (by exact ⟨_, rfl, res_blkN H.get3 (Try.isAgg48 _) (Try.sizeOf48 _) rfl rfl⟩) rfl ?_)
                unfold armR; rw [if_neg (by omega), if_neg (by rw [hfn]; decide), if_neg (by omega)]; exact ⟨A4, c4, rfl, .inr (by exact H.drop1.drop1.drop1.drop1.drop1)⟩
            · skip
              refine tw_buildSlice H rfl rfl Try.underlying46 info59 rfl (fun ρ k => bs1 k rfl) (by decide) (by decide) (fill_RThing_1 _ _ _ _) rfl rfl rfl ?_
              intro b7 w7 hb7 H
              refine ⟨(by exact H.get3), ?_⟩
              refine th_one 2 (by kernel_rfl) ?_
              refine tw_val (ov_load_blk H.get4 rfl (Try.isAgg46 _) rfl rfl rfl) rfl ((by exact H.get3)) rfl rfl rfl ?_
              refine th_one 3 (by kernel_rfl) ?_
              (refine tw_append (M := W) (L := ([] : List RThing)) H.get1 (H.rd0 hR) rfl rfl rfl rfl Try.underlying46 info59 rfl rfl (show Try.t59.bytes = 32 from rfl) rfl (by decide) lenRThing oneRThing (by rw [List.length_nil]; omega) (by rw [List.length_nil]; unfold maxLen; omega) rfl rfl rfl ?_; intro A2 c2 w20 U; have H := H.upd1 U; clear U; rw [List.nil_append] at H ⊢; refine ⟨(by exact H.get3), ?_⟩)
              refine th_one 6 (by kernel_rfl) ?_
              (refine tw_append (M := [t]) (L := W) H.get1 (rd_blk [t] H.get0 rfl lenRThing) rfl rfl rfl rfl Try.underlying46 info59 rfl rfl (show Try.t59.bytes = 32 from rfl) rfl (by decide) lenRThing oneRThing (by rw [List.length_singleton]; omega) (by rw [List.length_singleton]; unfold maxLen; omega) rfl rfl rfl ?_; intro A3 c3 w30 U; have H := H.upd1 U; clear U; refine ⟨(by exact H.get3), ?_⟩)
              refine th_one 7 (by kernel_rfl) ?_
              refine tw_call (SortedR_c A3 c3 (W ++ [t]) _ (by exact vec_rd H.get1 lenRThing (by decide)) (by simp; omega)) rfl rfl rfl rfl Try.call105 rfl rfl rfl ?_
              rintro _ w16 ⟨A4, c4, rfl, HC⟩
              have H := H.call0r HC
              refine ⟨(by exact H.get4), ?_⟩
              refine th_take 8 rfl (by kernel_rfl) (by kernel_rfl) (by kernel_rfl) ((by exact H.get4)) (fun _ hS => ov_fieldAddr rfl Try.underlying48 rfl (Try.sizeOf46 _) (by decide) rfl) rfl rfl rfl ?_
              refine th_one 9 (by kernel_rfl) ?_
              (refine tw_store H.get5 rfl rfl (Try.sizeOf46 _) rfl rfl rfl rfl rfl rfl rfl ?_; intro w17 U; have H := H.upd5 U; clear U)
              try simp only [List.set_cons_zero, List.set_cons_succ, Nat.zero_add] at H
              refine ⟨(by exact H.get4), ?_⟩
              refine th_done (by kernel_rfl) ?_
              refine hK12 _ _ (TrC.keep [25, 20, 13, 5, 4, 3, 2] ?_)
              show TrC _ _ _ _ [(25, _), (20, _), (13, _), (5, _), (4, _), (3, _), (2, _)] _ _
              refine tr_seq (fun K15 hK15 => ?_)
              -- region 8: ref.go:32
              refine tr_region ?_
              refine tr_val (ov_load_blkN H.get5 rfl (Try.isAgg48 _) (Try.sizeOf48 _) rfl rfl rfl) rfl rfl rfl ?_
              (refine tr_storeW H.get3 rfl (Try.sizeOf48 _) rfl rfl rfl rfl rfl rfl rfl rfl ?_; intro w18 U; have H := H.upd3 U; clear U)
              refine tr_val (ov_assign rfl rfl) rfl rfl rfl ?_
              refine tr_nil (hK15 _ _ (TrC.keep [5, 25, 20, 13, 4, 3, 2] ?_))
              show TrC _ _ _ _ [(5, _), (25, _), (20, _), (13, _), (4, _), (3, _), (2, _)] _ _
              refine tr_ret (post_ret2 (.inr rfl) rfl (by exact ⟨_, rfl, res_blkN H.get3 (Try.isAgg48 _) (Try.sizeOf48 _) rfl rfl⟩) rfl ?_)
              unfold armR; rw [if_neg (by omega), if_neg (by rw [hfn]; decide), if_neg (by omega)]; exact ⟨A4, c4, rfl, .inr (by exact H.drop1.drop1.drop1.drop1.drop1)⟩
          · skip
            refine tw_val (ov_load_blk H.get2 rfl (Try.isAgg46 _) rfl rfl rfl) rfl ((by exact H.get1)) rfl rfl rfl ?_
            refine th_two 0 5 (by kernel_rfl) ?_ ?_
            · skip
              refine tw_buildSlice0 H rfl rfl Try.underlying46 info59 rfl rfl rfl ?_
              intro b6 w16 hb6 H
              have H := H.upd0 (upd_vec_of_blk (L := ([] : List RThing)) (enc := encRThing) (sz := 4) H.get0 rfl lenRThing (by simp))
              refine ⟨(by exact H.get2), ?_⟩
              refine th_two 3 5 (by kernel_rfl) ?_ ?_
              · skip
                (refine tw_append (M := W) (L := ([] : List RThing)) H.get0 (H.rd0 hR) rfl rfl rfl rfl Try.underlying46 info59 rfl rfl (show Try.t59.bytes = 32 from rfl) rfl (by decide) lenRThing oneRThing (by rw [List.length_nil]; omega) (by rw [List.length_nil]; unfold maxLen; omega) rfl rfl rfl ?_; intro A2 c2 w20 U; have H := H.upd0 U; clear U; rw [List.nil_append] at H ⊢; refine ⟨(by exact H.get2), ?_⟩)
                refine th_one 5 (by kernel_rfl) ?_
                refine tw_buildSlice H rfl rfl Try.underlying46 info59 rfl (fun ρ k => bs1 k rfl) (by decide) (by decide) (fill_RThing_1 _ _ _ _) rfl rfl rfl ?_
                intro b7 w7 hb7 H
                refine ⟨(by exact H.get3), ?_⟩
                refine th_one 6 (by kernel_rfl) ?_
                (refine tw_append (M := [t]) (L := W) H.get1 (rd_blk [t] H.get0 rfl lenRThing) rfl rfl rfl rfl Try.underlying46 info59 rfl rfl (show Try.t59.bytes = 32 from rfl) rfl (by decide) lenRThing oneRThing (by rw [List.length_singleton]; omega) (by rw [List.length_singleton]; unfold maxLen; omega) rfl rfl rfl ?_; intro A3 c3 w30 U; have H := H.upd1 U; clear U; refine ⟨(by exact H.get3), ?_⟩)
                refine th_one 7 (by kernel_rfl) ?_
                refine tw_call (SortedR_c A3 c3 (W ++ [t]) _ (by exact vec_rd H.get1 lenRThing (by decide)) (by simp; omega)) rfl rfl rfl rfl Try.call105 rfl rfl rfl ?_
                rintro _ w19 ⟨A4, c4, rfl, HC⟩
                have H := H.call0r HC
                refine ⟨(by exact H.get4), ?_⟩
                refine th_take 8 rfl (by kernel_rfl) (by kernel_rfl) (by kernel_rfl) ((by exact H.get4)) (fun _ hS => ov_fieldAddr rfl Try.underlying48 rfl (Try.sizeOf46 _) (by decide) rfl) rfl rfl rfl ?_
                refine th_one 9 (by kernel_rfl) ?_
                (refine tw_store H.get5 rfl rfl (Try.sizeOf46 _) rfl rfl rfl rfl rfl rfl rfl ?_; intro w20 U; have H := H.upd5 U; clear U)
                try simp only [List.set_cons_zero, List.set_cons_succ, Nat.zero_add] at H
                refine ⟨(by exact H.get4), ?_⟩
                refine th_done (by kernel_rfl) ?_
                refine hK12 _ _ (TrC.keep [25, 20, 13, 5, 4, 3, 2] ?_)
                show TrC _ _ _ _ [(25, _), (20, _), (13, _), (5, _), (4, _), (3, _), (2, _)] _ _
                refine tr_seq (fun K16 hK16 => ?_)
                -- region 8: ref.go:32
                refine tr_region ?_
                refine tr_val (ov_load_blkN H.get5 rfl (Try.isAgg48 _) (Try.sizeOf48 _) rfl rfl rfl) rfl rfl rfl ?_
                (refine tr_storeW H.get3 rfl (Try.sizeOf48 _) rfl rfl rfl rfl rfl rfl rfl rfl ?_; intro w21 U; have H := H.upd3 U; clear U)
                refine tr_val (ov_assign rfl rfl) rfl rfl rfl ?_
                refine tr_nil (hK16 _ _ (TrC.keep [5, 25, 20, 13, 4, 3, 2] ?_))
                show TrC _ _ _ _ [(5, _), (25, _), (20, _), (13, _), (4, _), (3, _), (2, _)] _ _
                refine tr_ret (post_ret2 (.inr rfl) rfl (by exact ⟨_, rfl, res_blkN H.get3 (Try.isAgg48 _) (Try.sizeOf48 _) rfl rfl⟩) rfl ?_)
                unfold armR; rw [if_neg (by omega), if_neg (by rw [hfn]; decide), if_neg (by omega)]; exact ⟨A4, c4, rfl, .inr (by exact H.drop1.drop1.drop1.drop1.drop1)⟩
              · skip
                refine tw_buildSlice H rfl rfl Try.underlying46 info59 rfl (fun ρ k => bs1 k rfl) (by decide) (by decide) (fill_RThing_1 _ _ _ _) rfl rfl rfl ?_
                intro b7 w7 hb7 H
                refine ⟨(by exact H.get3), ?_⟩
                refine th_one 3 (by kernel_rfl) ?_
                (refine tw_append (M := W) (L := ([] : List RThing)) H.get1 (H.rd0 hR) rfl rfl rfl rfl Try.underlying46 info59 rfl rfl (show Try.t59.bytes = 32 from rfl) rfl (by decide) lenRThing oneRThing (by rw [List.length_nil]; omega) (by rw [List.length_nil]; unfold maxLen; omega) rfl rfl rfl ?_; intro A2 c2 w20 U; have H := H.upd1 U; clear U; rw [List.nil_append] at H ⊢; refine ⟨(by exact H.get3), ?_⟩)
                refine th_one 6 (by kernel_rfl) ?_
                (refine tw_append (M := [t]) (L := W) H.get1 (rd_blk [t] H.get0 rfl lenRThing) rfl rfl rfl rfl Try.underlying46 info59 rfl rfl (show Try.t59.bytes = 32 from rfl) rfl (by decide) lenRThing oneRThing (by rw [List.length_singleton]; omega) (by rw [List.length_singleton]; unfold maxLen; omega) rfl rfl rfl ?_; intro A3 c3 w30 U; have H := H.upd1 U; clear U; refine ⟨(by exact H.get3), ?_⟩)
                refine th_one 7 (by kernel_rfl) ?_
                refine tw_call (SortedR_c A3 c3 (W ++ [t]) _ (by exact vec_rd H.get1 lenRThing (by decide)) (by simp; omega)) rfl rfl rfl rfl Try.call105 rfl rfl rfl ?_
                rintro _ w22 ⟨A4, c4, rfl, HC⟩
                have H := H.call0r HC
                refine ⟨(by exact H.get4), ?_⟩
                refine th_take 8 rfl (by kernel_rfl) (by kernel_rfl) (by kernel_rfl) ((by exact H.get4)) (fun _ hS => ov_fieldAddr rfl Try.underlying48 rfl (Try.sizeOf46 _) (by decide) rfl) rfl rfl rfl ?_
                refine th_one 9 (by kernel_rfl) ?_
                (refine tw_store H.get5 rfl rfl (Try.sizeOf46 _) rfl rfl rfl rfl rfl rfl rfl ?_; intro w23 U; have H := H.upd5 U; clear U)
                try simp only [List.set_cons_zero, List.set_cons_succ, Nat.zero_add] at H
                refine ⟨(by exact H.get4), ?_⟩
                refine th_done (by kernel_rfl) ?_
                refine hK12 _ _ (TrC.keep [25, 20, 13, 5, 4, 3, 2] ?_)
                show TrC _ _ _ _ [(25, _), (20, _), (13, _), (5, _), (4, _), (3, _), (2, _)] _ _
                refine tr_seq (fun K17 hK17 => ?_)
                -- region 8: ref.go:32
                refine tr_region ?_
                refine tr_val (ov_load_blkN H.get5 rfl (Try.isAgg48 _) (Try.sizeOf48 _) rfl rfl rfl) rfl rfl rfl ?_
                (refine tr_storeW H.get3 rfl (Try.sizeOf48 _) rfl rfl rfl rfl rfl rfl rfl rfl ?_; intro w24 U; have H := H.upd3 U; clear U)
                refine tr_val (ov_assign rfl rfl) rfl rfl rfl ?_
                refine tr_nil (hK17 _ _ (TrC.keep [5, 25, 20, 13, 4, 3, 2] ?_))
                show TrC _ _ _ _ [(5, _), (25, _), (20, _), (13, _), (4, _), (3, _), (2, _)] _ _
                refine tr_ret (post_ret2 (.inr rfl) rfl (by exact ⟨_, rfl, res_blkN H.get3 (Try.isAgg48 _) (Try.sizeOf48 _) rfl rfl⟩) rfl ?_)
                unfold armR; rw [if_neg (by omega), if_neg (by rw [hfn]; decide), if_neg (by omega)]; exact ⟨A4, c4, rfl, .inr (by exact H.drop1.drop1.drop1.drop1.drop1)⟩
            · skip
              refine tw_buildSlice H rfl rfl Try.underlying46 info59 rfl (fun ρ k => bs1 k rfl) (by decide) (by decide) (fill_RThing_1 _ _ _ _) rfl rfl rfl ?_
              intro b7 w7 hb7 H
              refine ⟨(by exact H.get2), ?_⟩
              refine th_one 0 (by kernel_rfl) ?_
              refine tw_buildSlice0 H rfl rfl Try.underlying46 info59 rfl rfl rfl ?_
              intro b6 w16 hb6 H
              have H := H.upd0 (upd_vec_of_blk (L := ([] : List RThing)) (enc := encRThing) (sz := 4) H.get0 rfl lenRThing (by simp))
              refine ⟨(by exact H.get3), ?_⟩
              refine th_one 3 (by kernel_rfl) ?_
              (refine tw_append (M := W) (L := ([] : List RThing)) H.get0 (H.rd0 hR) rfl rfl rfl rfl Try.underlying46 info59 rfl rfl (show Try.t59.bytes = 32 from rfl) rfl (by decide) lenRThing oneRThing (by rw [List.length_nil]; omega) (by rw [List.length_nil]; unfold maxLen; omega) rfl rfl rfl ?_; intro A2 c2 w20 U; have H := H.upd0 U; clear U; rw [List.nil_append] at H ⊢; refine ⟨(by exact H.get3), ?_⟩)
              refine th_one 6 (by kernel_rfl) ?_
              (refine tw_append (M := [t]) (L := W) H.get0 (rd_blk [t] H.get1 rfl lenRThing) rfl rfl rfl rfl Try.underlying46 info59 rfl rfl (show Try.t59.bytes = 32 from rfl) rfl (by decide) lenRThing oneRThing (by rw [List.length_singleton]; omega) (by rw [List.length_singleton]; unfold maxLen; omega) rfl rfl rfl ?_; intro A3 c3 w30 U; have H := H.upd0 U; clear U; refine ⟨(by exact H.get3), ?_⟩)
              refine th_one 7 (by kernel_rfl) ?_
              refine tw_call (SortedR_c A3 c3 (W ++ [t]) _ (by exact vec_rd H.get0 lenRThing (by decide)) (by simp; omega)) rfl rfl rfl rfl Try.call105 rfl rfl rfl ?_
              rintro _ w25 ⟨A4, c4, rfl, HC⟩
              have H := H.call0r HC
              refine ⟨(by exact H.get4), ?_⟩
              refine th_take 8 rfl (by kernel_rfl) (by kernel_rfl) (by kernel_rfl) ((by exact H.get4)) (fun _ hS => ov_fieldAddr rfl Try.underlying48 rfl (Try.sizeOf46 _) (by decide) rfl) rfl rfl rfl ?_
              refine th_one 9 (by kernel_rfl) ?_
              (refine tw_store H.get5 rfl rfl (Try.sizeOf46 _) rfl rfl rfl rfl rfl rfl rfl ?_; intro w26 U; have H := H.upd5 U; clear U)
              try simp only [List.set_cons_zero, List.set_cons_succ, Nat.zero_add] at H
              refine ⟨(by exact H.get4), ?_⟩
              refine th_done (by kernel_rfl) ?_
              refine hK12 _ _ (TrC.keep [25, 20, 13, 5, 4, 3, 2] ?_)
              show TrC _ _ _ _ [(25, _), (20, _), (13, _), (5, _), (4, _), (3, _), (2, _)] _ _
              refine tr_seq (fun K18 hK18 => ?_)
              -- region 8: ref.go:32
              refine tr_region ?_
              refine tr_val (ov_load_blkN H.get5 rfl (Try.isAgg48 _) (Try.sizeOf48 _) rfl rfl rfl) rfl rfl rfl ?_
              (refine tr_storeW H.get3 rfl (Try.sizeOf48 _) rfl rfl rfl rfl rfl rfl rfl rfl ?_; intro w27 U; have H := H.upd3 U; clear U)
              refine tr_val (ov_assign rfl rfl) rfl rfl rfl ?_
              refine tr_nil (hK18 _ _ (TrC.keep [5, 25, 20, 13, 4, 3, 2] ?_))
              show TrC _ _ _ _ [(5, _), (25, _), (20, _), (13, _), (4, _), (3, _), (2, _)] _ _
              refine tr_ret (post_ret2 (.inr rfl) rfl (by exact ⟨_, rfl, res_blkN H.get3 (Try.isAgg48 _) (Try.sizeOf48 _) rfl rfl⟩) rfl ?_)
              unfold armR; rw [if_neg (by omega), if_neg (by rw [hfn]; decide), if_neg (by omega)]; exact ⟨A4, c4, rfl, .inr (by exact H.drop1.drop1.drop1.drop1.drop1)⟩
          · skip
            refine tw_buildSlice H rfl rfl Try.underlying46 info59 rfl (fun ρ k => bs1 k rfl) (by decide) (by decide) (fill_RThing_1 _ _ _ _) rfl rfl rfl ?_
            intro b7 w7 hb7 H
            refine ⟨(by exact H.get2), ?_⟩
            refine th_two 0 2 (by kernel_rfl) ?_ ?_
            · skip
              refine tw_buildSlice0 H rfl rfl Try.underlying46 info59 rfl rfl rfl ?_
              intro b6 w16 hb6 H
              have H := H.upd0 (upd_vec_of_blk (L := ([] : List RThing)) (enc := encRThing) (sz := 4) H.get0 rfl lenRThing (by simp))
              refine ⟨(by exact H.get3), ?_⟩
              refine th_one 2 (by kernel_rfl) ?_
              refine tw_val (ov_load_blk H.get4 rfl (Try.isAgg46 _) rfl rfl rfl) rfl ((by exact H.get3)) rfl rfl rfl ?_
              refine th_one 3 (by kernel_rfl) ?_
              (refine tw_append (M := W) (L := ([] : List RThing)) H.get0 (H.rd0 hR) rfl rfl rfl rfl Try.underlying46 info59 rfl rfl (show Try.t59.bytes = 32 from rfl) rfl (by decide) lenRThing oneRThing (by rw [List.length_nil]; omega) (by rw [List.length_nil]; unfold maxLen; omega) rfl rfl rfl ?_; intro A2 c2 w20 U; have H := H.upd0 U; clear U; rw [List.nil_append] at H ⊢; refine ⟨(by exact H.get3), ?_⟩)
              refine th_one 6 (by kernel_rfl) ?_
              (refine tw_append (M := [t]) (L := W) H.get0 (rd_blk [t] H.get1 rfl lenRThing) rfl rfl rfl rfl Try.underlying46 info59 rfl rfl (show Try.t59.bytes = 32 from rfl) rfl (by decide) lenRThing oneRThing (by rw [List.length_singleton]; omega) (by rw [List.length_singleton]; unfold maxLen; omega) rfl rfl rfl ?_; intro A3 c3 w30 U; have H := H.upd0 U; clear U; refine ⟨(by exact H.get3), ?_⟩)
              refine th_one 7 (by kernel_rfl) ?_
              refine tw_call (SortedR_c A3 c3 (W ++ [t]) _ (by exact vec_rd H.get0 lenRThing (by decide)) (by simp; omega)) rfl rfl rfl rfl Try.call105 rfl rfl rfl ?_
              rintro _ w28 ⟨A4, c4, rfl, HC⟩
              have H := H.call0r HC
              refine ⟨(by exact H.get4), ?_⟩
              refine th_take 8 rfl (by kernel_rfl) (by kernel_rfl) (by kernel_rfl) ((by exact H.get4)) (fun _ hS => ov_fieldAddr rfl Try.underlying48 rfl (Try.sizeOf46 _) (by decide) rfl) rfl rfl rfl ?_
              refine th_one 9 (by kernel_rfl) ?_
              (refine tw_store H.get5 rfl rfl (Try.sizeOf46 _) rfl rfl rfl rfl rfl rfl rfl ?_; intro w29 U; have H := H.upd5 U; clear U)
              try simp only [List.set_cons_zero, List.set_cons_succ, Nat.zero_add] at H
              refine ⟨(by exact H.get4), ?_⟩
              refine th_done (by kernel_rfl) ?_
              refine hK12 _ _ (TrC.keep [25, 20, 13, 5, 4, 3, 2] ?_)
              show TrC _ _ _ _ [(25, _), (20, _), (13, _), (5, _), (4, _), (3, _), (2, _)] _ _
              refine tr_seq (fun K19 hK19 => ?_)
              -- region 8: ref.go:32
              refine tr_region ?_
              refine tr_val (ov_load_blkN H.get5 rfl (Try.isAgg48 _) (Try.sizeOf48 _) rfl rfl rfl) rfl rfl rfl ?_
              (refine tr_storeW H.get3 rfl (Try.sizeOf48 _) rfl rfl rfl rfl rfl rfl rfl rfl ?_; intro w30 U; have H := H.upd3 U; clear U)
              refine tr_val (ov_assign rfl rfl) rfl rfl rfl ?_
              refine tr_nil (hK19 _ _ (TrC.keep [5, 25, 20, 13, 4, 3, 2] ?_))
              show TrC _ _ _ _ [(5, _), (25, _), (20, _), (13, _), (4, _), (3, _), (2, _)] _ _
              refine tr_ret (post_ret2 (.inr rfl) rfl (by exact ⟨_, rfl, res_blkN H.get3 (Try.isAgg48 _) (Try.sizeOf48 _) rfl rfl⟩) rfl ?_)
              unfold armR; rw [if_neg (by omega), if_neg (by rw [hfn]; decide), if_neg (by omega)]; exact ⟨A4, c4, rfl, .inr (by exact H.drop1.drop1.drop1.drop1.drop1)⟩
            · skip
              refine tw_val (ov_load_blk H.get3 rfl (Try.isAgg46 _) rfl rfl rfl) rfl ((by exact H.get2)) rfl rfl rfl ?_
              refine th_one 0 (by kernel_rfl) ?_
              refine tw_buildSlice0 H rfl rfl Try.underlying46 info59 rfl rfl rfl ?_
              intro b6 w16 hb6 H
              have H := H.upd0 (upd_vec_of_blk (L := ([] : List RThing)) (enc := encRThing) (sz := 4) H.get0 rfl lenRThing (by simp))
              refine ⟨(by exact H.get3), ?_⟩
              refine th_one 3 (by kernel_rfl) ?_
              (refine tw_append (M := W) (L := ([] : List RThing)) H.get0 (H.rd0 hR) rfl rfl rfl rfl Try.underlying46 info59 rfl rfl (show Try.t59.bytes = 32 from rfl) rfl (by decide) lenRThing oneRThing (by rw [List.length_nil]; omega) (by rw [List.length_nil]; unfold maxLen; omega) rfl rfl rfl ?_; intro A2 c2 w20 U; have H := H.upd0 U; clear U; rw [List.nil_append] at H ⊢; refine ⟨(by exact H.get3), ?_⟩)
              refine th_one 6 (by kernel_rfl) ?_
              (refine tw_append (M := [t]) (L := W) H.get0 (rd_blk [t] H.get1 rfl lenRThing) rfl rfl rfl rfl Try.underlying46 info59 rfl rfl (show Try.t59.bytes = 32 from rfl) rfl (by decide) lenRThing oneRThing (by rw [List.length_singleton]; omega) (by rw [List.length_singleton]; unfold maxLen; omega) rfl rfl rfl ?_; intro A3 c3 w30 U; have H := H.upd0 U; clear U; refine ⟨(by exact H.get3), ?_⟩)
              refine th_one 7 (by kernel_rfl) ?_
              refine tw_call (SortedR_c A3 c3 (W ++ [t]) _ (by exact vec_rd H.get0 lenRThing (by decide)) (by simp; omega)) rfl rfl rfl rfl Try.call105 rfl rfl rfl ?_
              rintro _ w31 ⟨A4, c4, rfl, HC⟩
              have H := H.call0r HC
              refine ⟨(by exact H.get4), ?_⟩
              refine th_take 8 rfl (by kernel_rfl) (by kernel_rfl) (by kernel_rfl) ((by exact H.get4)) (fun _ hS => ov_fieldAddr rfl Try.underlying48 rfl (Try.sizeOf46 _) (by decide) rfl) rfl rfl rfl ?_
              refine th_one 9 (by kernel_rfl) ?_
              (refine tw_store H.get5 rfl rfl (Try.sizeOf46 _) rfl rfl rfl rfl rfl rfl rfl ?_; intro w32 U; have H := H.upd5 U; clear U)
              try simp only [List.set_cons_zero, List.set_cons_succ, Nat.zero_add] at H
              refine ⟨(by exact H.get4), ?_⟩
              refine th_done (by kernel_rfl) ?_
              refine hK12 _ _ (TrC.keep [25, 20, 13, 5, 4, 3, 2] ?_)
              show TrC _ _ _ _ [(25, _), (20, _), (13, _), (5, _), (4, _), (3, _), (2, _)] _ _
              refine tr_seq (fun K20 hK20 => ?_)
              -- region 8: ref.go:32
              refine tr_region ?_
              refine tr_val (ov_load_blkN H.get5 rfl (Try.isAgg48 _) (Try.sizeOf48 _) rfl rfl rfl) rfl rfl rfl ?_
              (refine tr_storeW H.get3 rfl (Try.sizeOf48 _) rfl rfl rfl rfl rfl rfl rfl rfl ?_; intro w33 U; have H := H.upd3 U; clear U)
              refine tr_val (ov_assign rfl rfl) rfl rfl rfl ?_
              refine tr_nil (hK20 _ _ (TrC.keep [5, 25, 20, 13, 4, 3, 2] ?_))
              show TrC _ _ _ _ [(5, _), (25, _), (20, _), (13, _), (4, _), (3, _), (2, _)] _ _
              refine tr_ret (post_ret2 (.inr rfl) rfl (by exact ⟨_, rfl, res_blkN H.get3 (Try.isAgg48 _) (Try.sizeOf48 _) rfl rfl⟩) rfl ?_)
              unfold armR; rw [if_neg (by omega), if_neg (by rw [hfn]; decide), if_neg (by omega)]; exact ⟨A4, c4, rfl, .inr (by exact H.drop1.drop1.drop1.drop1.drop1)⟩

def advFR (now to_ : Int) (W : List RThing) : List RThing := if advE now to_ = 0 then W.filter fun r => decide (r.due ≤ to_) else []
def advXR (now to_ : Int) (W : List RThing) : List RThing := if advE now to_ = 0 then W.filter fun r => decide (to_ < r.due) else W
theorem advFR_z {now to_ : Int} {X : List Thing} (hi : Ids X) (hu : UpT X) : advFR now to_ (zR X) = zR (advF now to_ X) := by
  unfold advFR advF
  split
  · rw [filter_z, sort_up (hi.sub List.filter_sublist) (upT_sub hu List.filter_sublist)]; rfl
  · rfl
theorem advXR_z {now to_ : Int} {X : List Thing} : advXR now to_ (zR X) = zR (advX now to_ X) := by
  unfold advXR advX
  split
  · rw [filter_z]; rfl
  · rfl
def AdvL (B : Option Addr) (c : Nat) (W : List RThing) (Af : Option Addr) (cf : Nat) (F : List RThing) (A' : Option Addr) (c' : Nat) (W' : List RThing) (w w' : World) : Prop :=
  (A' = B ∧ c' = c ∧ W' = W ∧ Af = none ∧ cf = 0 ∧ F = [] ∧ SH w noBlocks [] w') ∨ SH w noBlocks [vec A' c' 59 4 encRThing W', vec Af cf 59 4 encRThing F] w'
theorem AdvL.own {B A' Af : Option Addr} {c c' cf : Nat} {W W' F : List RThing} {w w' : World} (h : AdvL B c W Af cf F A' c' W' w w') (hO : (rdr B 4 (W.map encRThing)).holds w) (hc : W.length ≤ c) : W'.length ≤ c' ∧ SH w (rdr B 4 (W.map encRThing)).foot [rdr A' 4 (W'.map encRThing), vec Af cf 59 4 encRThing F] w' := by
  rcases h with ⟨rfl, rfl, rfl, rfl, rfl, rfl, H⟩ | H
  · have H2 := (SH.own1 hO).call0n H
    exact ⟨hc, (H2.addNil 59 4 encRThing).top1⟩
  · have H2 := (SH.own1 hO).call0 H
    exact ⟨vec_len H2.get0, (H2.upd0 (upd_rdr_of_vec H2.get0 lenRThing (by decide))).drop2⟩

/-! curfew/curfewref12.Advance -/
set_option maxRecDepth 20000 in
theorem AdvanceR_c (B : Option Addr) (c : Nat) (W : List RThing) (now : Int) (w : World) (hR : Rd w B 4 (W.map encRThing)) (hW : W.length ≤ 60000) (hc : W.length ≤ c) (to_ : Int) (hU : UpD W) : Does Try.prog 66 #[.agg #[.int .i64 now, .slice B (W).length c], .int .i64 to_] w (fun v w' => ∃ Af cf A' c', v = .tuple #[.agg #[.int .i64 (advN now to_), .slice A' ((advXR now to_ W)).length c'], .slice Af (advFR now to_ W).length cf, .int .i64 (advE now to_)] ∧ AdvL B c W Af cf (advFR now to_ W) A' c' (advXR now to_ W) w w') := by
  refine does_enter2 Try.func66 rfl Try.ntmps66 rfl ?_
  have H := SH.start w noBlocks
  refine tr_seq (fun K1 hK1 => ?_)
  -- region 0: ref.go:47
  refine tr_region ?_
  refine tr_box H rfl rfl rfl rfl rfl rfl ?_
  intro b1 w1 hb1 H
  refine tr_alloc H rfl (Try.zeroValue48 _) rfl rfl rfl rfl ?_
  intro b2 w2 hb2 H
  refine tr_val (ov_assign rfl rfl) rfl rfl rfl ?_
  refine tr_val (ov_assign rfl rfl) rfl rfl rfl ?_
  refine tr_nil (hK1 _ _ (TrC.keep [6, 5, 4, 2, 1] ?_))
  show TrC _ _ _ _ [(6, _), (5, _), (4, _), (2, _), (1, _)] _ _
  refine tr_seq (fun K2 hK2 => ?_)
  refine tr_seq (fun K3 hK3 => ?_)
  -- region 1: ref.go:48
  refine tr_region ?_
  refine tr_val (ov_move rfl rfl) rfl rfl rfl ?_
  refine tr_val (ov_lss rfl rfl rfl) rfl rfl rfl ?_
  refine tr_val (ov_move rfl rfl) rfl rfl rfl ?_
  refine tr_split (t := 11) rfl (fun s11 => ?_) (fun s11 => ?_)
  · skip
    refine tr_pass rfl rfl rfl ?_
    refine tr_pass rfl rfl rfl ?_
    refine tr_val (ov_pick (vb := undef) rfl rfl rfl rfl) rfl rfl rfl ?_
    refine tr_nil (hK3 _ _ (TrC.keep [14, 6, 5, 4, 2, 1] ?_))
    show TrC _ _ _ _ [(14, _), (6, _), (5, _), (4, _), (2, _), (1, _)] _ _
    refine tr_cond_t rfl rfl ?_
    refine tr_seq (fun K4 hK4 => ?_)
    -- region 2: ref.go:49
    refine tr_region ?_
    refine tr_val (ov_load_blkN H.get1 rfl (Try.isAgg48 _) (Try.sizeOf48 _) rfl rfl rfl) rfl rfl rfl ?_
    (refine tr_storeW H.get0 rfl (Try.sizeOf48 _) rfl rfl rfl rfl rfl rfl rfl rfl ?_; intro w3 U; have H := H.upd0 U; clear U)
    refine tr_val (ov_assign rfl rfl) rfl rfl rfl ?_
    refine tr_val (ov_assign rfl rfl) rfl rfl rfl ?_
    refine tr_nil (hK4 _ _ (TrC.keep [6, 5, 14, 4, 2, 1] ?_))
    show TrC _ _ _ _ [(6, _), (5, _), (14, _), (4, _), (2, _), (1, _)] _ _
    refine tr_ret (post_ret3 (.inr rfl) rfl (by exact ⟨_, rfl, res_blkN H.get0 (Try.isAgg48 _) (Try.sizeOf48 _) rfl rfl⟩) rfl rfl ?_)
    have he : advE now to_ = 2 := by unfold advE; rw [if_pos (by omega)]
    unfold advFR advXR advN
    rw [he, if_neg (by decide), if_neg (by decide), if_neg (by decide)]
    exact ⟨none, 0, B, c, rfl, .inl ⟨rfl, rfl, rfl, rfl, rfl, rfl, H.drop0.drop0⟩⟩
  · skip
    refine tr_val (ov_move rfl rfl) rfl rfl rfl ?_
    refine tr_val (ov_gtr rfl rfl rfl) rfl rfl rfl ?_
    refine tr_val (ov_pick_f (va := undef) rfl rfl rfl rfl) rfl rfl rfl ?_
    refine tr_nil (hK3 _ _ (TrC.keep [14, 6, 5, 4, 2, 1] ?_))
    show TrC _ _ _ _ [(14, _), (6, _), (5, _), (4, _), (2, _), (1, _)] _ _
    refine tr_cond rfl (fun c14 => ?_) (fun c14 => ?_)
    · skip
      refine tr_seq (fun K5 hK5 => ?_)
      -- region 2: ref.go:49
      refine tr_region ?_
      refine tr_val (ov_load_blkN H.get1 rfl (Try.isAgg48 _) (Try.sizeOf48 _) rfl rfl rfl) rfl rfl rfl ?_
      (refine tr_storeW H.get0 rfl (Try.sizeOf48 _) rfl rfl rfl rfl rfl rfl rfl rfl ?_; intro w4 U; have H := H.upd0 U; clear U)
      refine tr_val (ov_assign rfl rfl) rfl rfl rfl ?_
      refine tr_val (ov_assign rfl rfl) rfl rfl rfl ?_
      refine tr_nil (hK5 _ _ (TrC.keep [6, 5, 14, 4, 2, 1] ?_))
      show TrC _ _ _ _ [(6, _), (5, _), (14, _), (4, _), (2, _), (1, _)] _ _
      refine tr_ret (post_ret3 (.inr rfl) rfl (by exact ⟨_, rfl, res_blkN H.get0 (Try.isAgg48 _) (Try.sizeOf48 _) rfl rfl⟩) rfl rfl ?_)
      have he : advE now to_ = 2 := by unfold advE; rw [if_pos (by omega)]
      unfold advFR advXR advN
      rw [he, if_neg (by decide), if_neg (by decide), if_neg (by decide)]
      exact ⟨none, 0, B, c, rfl, .inl ⟨rfl, rfl, rfl, rfl, rfl, rfl, H.drop0.drop0⟩⟩
    · skip
      refine tr_skip (hK2 _ _ (TrC.keep [14, 6, 5, 4, 2, 1] ?_))
      show TrC _ _ _ _ [(14, _), (6, _), (5, _), (4, _), (2, _), (1, _)] _ _
      refine tr_seq (fun K6 hK6 => ?_)
      refine tr_seq (fun K7 hK7 => ?_)
      -- region 3: ref.go:51
      refine tr_region ?_
      refine tr_val (ov_move rfl rfl) rfl rfl rfl ?_
      refine tr_val (ov_fieldAddr rfl Try.underlying48 rfl (Try.sizeOf2 _) (by decide) rfl) rfl rfl rfl ?_
      refine tr_val (ov_load_blk H.get1 rfl (Try.isAgg2 _) rfl rfl rfl) rfl rfl rfl ?_
      refine tr_val (ov_lss rfl rfl rfl) rfl rfl rfl ?_
      refine tr_nil (hK7 _ _ (TrC.keep [19, 14, 6, 5, 4, 2, 1] ?_))
      show TrC _ _ _ _ [(19, _), (14, _), (6, _), (5, _), (4, _), (2, _), (1, _)] _ _
      refine tr_cond rfl (fun c19 => ?_) (fun c19 => ?_)
      · skip
        refine tr_seq (fun K8 hK8 => ?_)
        -- region 4: ref.go:52
        refine tr_region ?_
        refine tr_val (ov_load_blkN H.get1 rfl (Try.isAgg48 _) (Try.sizeOf48 _) rfl rfl rfl) rfl rfl rfl ?_
        (refine tr_storeW H.get0 rfl (Try.sizeOf48 _) rfl rfl rfl rfl rfl rfl rfl rfl ?_; intro w5 U; have H := H.upd0 U; clear U)
        refine tr_val (ov_assign rfl rfl) rfl rfl rfl ?_
        refine tr_val (ov_assign rfl rfl) rfl rfl rfl ?_
        refine tr_nil (hK8 _ _ (TrC.keep [6, 5, 19, 14, 4, 2, 1] ?_))
        show TrC _ _ _ _ [(6, _), (5, _), (19, _), (14, _), (4, _), (2, _), (1, _)] _ _
        refine tr_ret (post_ret3 (.inr rfl) rfl (by exact ⟨_, rfl, res_blkN H.get0 (Try.isAgg48 _) (Try.sizeOf48 _) rfl rfl⟩) rfl rfl ?_)
        have he : advE now to_ = 34 := by unfold advE; rw [if_neg (by omega), if_pos (by omega)]
        unfold advFR advXR advN
        rw [he, if_neg (by decide), if_neg (by decide), if_neg (by decide)]
        exact ⟨none, 0, B, c, rfl, .inl ⟨rfl, rfl, rfl, rfl, rfl, rfl, H.drop0.drop0⟩⟩
      · skip
        refine tr_skip (hK6 _ _ (TrC.keep [19, 14, 6, 5, 4, 2, 1] ?_))
        show TrC _ _ _ _ [(19, _), (14, _), (6, _), (5, _), (4, _), (2, _), (1, _)] _ _
        refine tr_seq (fun K9 hK9 => ?_)
        -- region 5: ref.go:54
        refine tr_region ?_
        refine tr_val (ov_assign rfl rfl) rfl rfl rfl ?_
        refine tr_nil (hK9 _ _ (TrC.keep [7, 19, 14, 6, 5, 4, 2, 1] ?_))
        show TrC _ _ _ _ [(7, _), (19, _), (14, _), (6, _), (5, _), (4, _), (2, _), (1, _)] _ _
        refine tr_seq (fun K10 hK10 => ?_)
        refine tr_block ?_
        refine tr_loop_ (X := Int) [19, 14, 6, 5, 4, 2, 1] (fun n => [(7, .int .i64 n)]) (fun n w' => 0 ≤ n ∧ n ≤ W.length ∧ (∀ r, r ∈ W.take n.toNat → r.due ≤ to_) ∧ SH w noBlocks [blk b2 48 [.int .i64 0, .slice none 0 0], blk b1 48 [.int .i64 now, .slice B (W).length c]] w') (fun n => (W.length - n).toNat) (0) (Sub.cons rfl (Sub.cons rfl (Sub.cons rfl (Sub.cons rfl (Sub.cons rfl (Sub.cons rfl (Sub.cons rfl (Sub.cons rfl Sub.nil)))))))) (⟨by omega, by omega, fun r hr => by simp at hr, H⟩) ?_
        rintro n w6 ⟨hi0, hi1, hb, H⟩ K11 hK11
        show TrC _ _ _ _ [(7, _), (19, _), (14, _), (6, _), (5, _), (4, _), (2, _), (1, _)] _ _
        refine tr_seq (fun K12 hK12 => ?_)
        refine tr_seq (fun K13 hK13 => ?_)
        -- region 6: ref.go:55
        refine tr_cut [7, 19, 14, 6, 5, 4, 2, 1] [(35, .bool (decide (n < W.length ∧ (gt W n).due ≤ to_)))] (fun w' => SH w noBlocks [blk b2 48 [.int .i64 0, .slice none 0 0], blk b1 48 [.int .i64 now, .slice B (W).length c]] w') (fun K14 hK14 => ?_) (fun w7 H => ?_)
        · skip
          refine tr_val (ov_move rfl rfl) rfl rfl rfl ?_
          refine tr_val (ov_fieldAddr rfl Try.underlying48 rfl (Try.sizeOf46 _) (by decide) rfl) rfl rfl rfl ?_
          refine tr_val (ov_load_blk H.get1 rfl (Try.isAgg46 _) rfl rfl rfl) rfl rfl rfl ?_
          refine tr_val (ov_len rfl rfl Try.underlying46 rfl) rfl rfl rfl ?_
          refine tr_val (ov_lss rfl rfl rfl) rfl rfl rfl ?_
          refine tr_val (ov_move rfl rfl) rfl rfl rfl ?_
          refine tr_split (t := 26) rfl (fun s26 => ?_) (fun s26 => ?_)
          · skip
            refine tr_val (ov_fieldAddr rfl Try.underlying48 rfl (Try.sizeOf46 _) (by decide) rfl) rfl rfl rfl ?_
            refine tr_val (ov_load_blk H.get1 rfl (Try.isAgg46 _) rfl rfl rfl) rfl rfl rfl ?_
            refine tr_val (ov_move rfl rfl) rfl rfl rfl ?_
            refine tr_val (ov_indexAddrR (H.rd0 hR) rfl Try.underlying46 (Try.sizeOf59 _) rfl rfl (by omega) (by omega)) rfl rfl rfl ?_
            refine tr_val (ov_fieldAddr rfl Try.underlying59 rfl (Try.sizeOf2 _) (by decide) rfl) rfl rfl rfl ?_
            refine tr_val (ld_RThing_2 (H.rd0 hR) rfl (Try.isAgg2 _) rfl (by omega) (by omega)) rfl rfl rfl ?_
            refine tr_val (ov_move rfl rfl) rfl rfl rfl ?_
            refine tr_val (ov_leq rfl rfl rfl) rfl rfl rfl ?_
            refine tr_val (ov_pick (vb := undef) rfl rfl rfl rfl) rfl rfl rfl ?_
            exact tr_nil (hK14 _ _ (Sub.consE rfl (congrArg Value.bool (by exact eqI (by skip; omega))) (Sub.cons rfl (Sub.cons rfl (Sub.cons rfl (Sub.cons rfl (Sub.cons rfl (Sub.cons rfl (Sub.cons rfl (Sub.cons rfl Sub.nil))))))))) (H))
          · skip
            refine tr_pass rfl rfl rfl ?_
            refine tr_pass rfl rfl rfl ?_
            refine tr_pass rfl rfl rfl ?_
            refine tr_pass rfl rfl rfl ?_
            refine tr_pass rfl rfl rfl ?_
            refine tr_pass rfl rfl rfl ?_
            refine tr_pass rfl rfl rfl ?_
            refine tr_pass rfl rfl rfl ?_
            refine tr_val (ov_pick_f (va := undef) rfl rfl rfl rfl) rfl rfl rfl ?_
            exact tr_nil (hK14 _ _ (Sub.consE rfl (congrArg Value.bool (by exact eqF (by skip; omega))) (Sub.cons rfl (Sub.cons rfl (Sub.cons rfl (Sub.cons rfl (Sub.cons rfl (Sub.cons rfl (Sub.cons rfl (Sub.cons rfl Sub.nil))))))))) (H))
        · skip
          refine hK13 _ _ (TrC.keep [35, 7, 19, 14, 6, 5, 4, 2, 1] ?_)
          show TrC _ _ _ _ [(35, _), (7, _), (19, _), (14, _), (6, _), (5, _), (4, _), (2, _), (1, _)] _ _
          refine tr_cond rfl (fun c35 => ?_) (fun c35 => ?_)
          · skip
            refine tr_skip (hK12 _ _ (TrC.keep [35, 7, 19, 14, 6, 5, 4, 2, 1] ?_))
            show TrC _ _ _ _ [(35, _), (7, _), (19, _), (14, _), (6, _), (5, _), (4, _), (2, _), (1, _)] _ _
            refine tr_block ?_
            -- region 7: ref.go:56
            refine tr_region ?_
            refine tr_val (ov_move rfl rfl) rfl rfl rfl ?_
            refine tr_val (ov_add rfl rfl rfl (w64 (by omega))) rfl rfl rfl ?_
            refine tr_val (ov_assign rfl rfl) rfl rfl rfl ?_
            skip
            exact tr_nil (hK11 (n + 1) _ _ (⟨by omega, by omega, take_due hi0 (by omega) hb c35.2, H⟩) (by omega) (Sub.cons rfl (Sub.cons rfl (Sub.cons rfl (Sub.cons rfl (Sub.cons rfl (Sub.cons rfl (Sub.cons rfl (Sub.cons rfl Sub.nil)))))))))
          · skip
            refine tr_exit (hK10 _ _ (TrC.keep [35, 7, 19, 14, 6, 5, 4, 2, 1] ?_))
            show TrC _ _ _ _ [(35, _), (7, _), (19, _), (14, _), (6, _), (5, _), (4, _), (2, _), (1, _)] _ _
            refine tr_seq (fun K15 hK15 => ?_)
            -- region 8: ref.go:58
            obtain ⟨hs1, hs2⟩ := due_split hU hi0 hi1 hb (by intro q; apply Classical.byContradiction; intro z; exact c35 ⟨q, by omega⟩)
            have e1 := takeN hi0 (L := W) (by omega)
            have e2 := dropN (L := W) (i := n)
            refine tr_region ?_
            refine tr_buildSlice0 H rfl Try.underlying46 info59 rfl rfl rfl ?_
            intro b8 w18 hb8 H
            have H := H.upd0 (upd_vec_of_blk (L := ([] : List RThing)) (enc := encRThing) (sz := 4) H.get0 rfl lenRThing (by simp))
            refine tr_val (ov_fieldAddr rfl Try.underlying48 rfl (Try.sizeOf46 _) (by decide) rfl) rfl rfl rfl ?_
            refine tr_val (ov_load_blk H.get2 rfl (Try.isAgg46 _) rfl rfl rfl) rfl rfl rfl ?_
            refine tr_val (ov_move rfl rfl) rfl rfl rfl ?_
            refine tr_val (ov_slice_hi rfl Try.underlying46 (Try.sizeOf59 _) rfl rfl (by omega) (by omega)) rfl rfl rfl ?_
            refine tr_append (M := W.take n.toNat) H.get0 (rd_take (H.rd0 hR) hc _) rfl rfl (by rw [e1]; rfl) Try.underlying46 info59 rfl rfl (show Try.t59.bytes = 32 from rfl) rfl (by decide) lenRThing oneRThing (by simp; omega) (by simp [maxLen]; omega) rfl rfl rfl ?_
            intro A2 c2 w20 U; have H := H.upd0 U; clear U
            rw [List.nil_append] at H ⊢
            refine tr_val (ov_assign rfl rfl) rfl rfl rfl ?_
            refine tr_nil (hK15 _ _ (TrC.keep [8, 35, 7, 19, 14, 6, 5, 4, 2, 1] ?_))
            show TrC _ _ _ _ [(8, _), (35, _), (7, _), (19, _), (14, _), (6, _), (5, _), (4, _), (2, _), (1, _)] _ _
            refine tr_seq (fun K16 hK16 => ?_)
            -- region 9: ref.go:59
            refine tr_region ?_
            refine tr_buildSlice0 H rfl Try.underlying46 info59 rfl rfl rfl ?_
            intro b9 w19 hb9 H
            have H := H.upd0 (upd_vec_of_blk (L := ([] : List RThing)) (enc := encRThing) (sz := 4) H.get0 rfl lenRThing (by simp))
            refine tr_val (ov_fieldAddr rfl Try.underlying48 rfl (Try.sizeOf46 _) (by decide) rfl) rfl rfl rfl ?_
            refine tr_val (ov_load_blk H.get3 rfl (Try.isAgg46 _) rfl rfl rfl) rfl rfl rfl ?_
            refine tr_val (ov_move rfl rfl) rfl rfl rfl ?_
            refine tr_val (ov_slice_lo rfl Try.underlying46 (Try.sizeOf59 _) rfl rfl (by omega) (by omega)) rfl rfl rfl ?_
            refine tr_append (M := W.drop n.toNat) H.get0 (rd_drop (H.rd0 hR) hc _) rfl rfl (by rw [e2]; rfl) Try.underlying46 info59 rfl rfl (show Try.t59.bytes = 32 from rfl) rfl (by decide) lenRThing oneRThing (by simp; omega) (by simp [maxLen]; omega) rfl rfl rfl ?_
            intro A3 c3 w30 U; have H := H.upd0 U; clear U
            rw [List.nil_append] at H ⊢
            refine tr_val (ov_fieldAddr rfl Try.underlying48 rfl (Try.sizeOf46 _) (by decide) rfl) rfl rfl rfl ?_
            (refine tr_store H.get3 rfl (Try.sizeOf46 _) rfl rfl rfl rfl rfl rfl rfl ?_; intro w8 U; have H := H.upd3 U; clear U)
            try simp only [List.set_cons_zero, List.set_cons_succ, Nat.zero_add] at H
            refine tr_nil (hK16 _ _ (TrC.keep [8, 35, 7, 19, 14, 6, 5, 4, 2, 1] ?_))
            show TrC _ _ _ _ [(8, _), (35, _), (7, _), (19, _), (14, _), (6, _), (5, _), (4, _), (2, _), (1, _)] _ _
            refine tr_seq (fun K17 hK17 => ?_)
            -- region 10: ref.go:60
            refine tr_region ?_
            refine tr_val (ov_move rfl rfl) rfl rfl rfl ?_
            refine tr_val (ov_fieldAddr rfl Try.underlying48 rfl (Try.sizeOf2 _) (by decide) rfl) rfl rfl rfl ?_
            (refine tr_store H.get3 rfl (Try.sizeOf2 _) rfl rfl rfl rfl rfl rfl rfl ?_; intro w9 U; have H := H.upd3 U; clear U)
            try simp only [List.set_cons_zero, List.set_cons_succ, Nat.zero_add] at H
            refine tr_nil (hK17 _ _ (TrC.keep [8, 35, 7, 19, 14, 6, 5, 4, 2, 1] ?_))
            show TrC _ _ _ _ [(8, _), (35, _), (7, _), (19, _), (14, _), (6, _), (5, _), (4, _), (2, _), (1, _)] _ _
            refine tr_seq (fun K18 hK18 => ?_)
            -- region 11: ref.go:61
            refine tr_region ?_
            refine tr_val (ov_load_blkN H.get3 rfl (Try.isAgg48 _) (Try.sizeOf48 _) rfl rfl rfl) rfl rfl rfl ?_
            refine tr_val (ov_move rfl rfl) rfl rfl rfl ?_
            (refine tr_storeW H.get2 rfl (Try.sizeOf48 _) rfl rfl rfl rfl rfl rfl rfl rfl ?_; intro w10 U; have H := H.upd2 U; clear U)
            refine tr_val (ov_assign rfl rfl) rfl rfl rfl ?_
            refine tr_val (ov_assign rfl rfl) rfl rfl rfl ?_
            refine tr_nil (hK18 _ _ (TrC.keep [6, 5, 8, 35, 7, 19, 14, 4, 2, 1] ?_))
            show TrC _ _ _ _ [(6, _), (5, _), (8, _), (35, _), (7, _), (19, _), (14, _), (4, _), (2, _), (1, _)] _ _
            refine tr_ret (post_ret3 (.inr rfl) rfl (by exact ⟨_, rfl, res_blkN H.get2 (Try.isAgg48 _) (Try.sizeOf48 _) rfl rfl⟩) rfl rfl ?_)
            have he : advE now to_ = 0 := advE_zero (by omega)
            unfold advFR advXR advN
            rw [he, if_pos rfl, if_pos rfl, if_pos rfl, ← hs1, ← hs2]
            exact ⟨A2, c2, A3, c3, rfl, .inr (H.drop2.drop2)⟩

end Go.Proofs.Ytblipnjjgbggiaa
