/- Contracts of wheel.Wheel: WheelSteps. Conditions: none. -/
import Derived.Test.YtblipnjjgbggiaaWheelF
namespace Go.Proofs.Ytblipnjjgbggiaa
open Go Go.RowKit
set_option linter.unusedVariables false
set_option linter.unusedSimpArgs false

theorem dues_of {d : Nat} {now : Int} {X : List Thing} {L : List Res} (h : WheelX 65 117 161 30 d now X L) : Ids X ∧ (∀ t, t ∈ X → 0 ≤ t.due ∧ t.due ≤ 1125899906842624) ∧ X.length ≤ 256 := by
  obtain ⟨Rs, Fv, hW, hM⟩ := h
  exact ⟨hW.ids, hW.dues, hW.few⟩
theorem flt_all {X : List Thing} (h : ∀ t, t ∈ X → 0 ≤ t.due ∧ t.due ≤ 1125899906842624) : X.filter (fun t => decide ((-1 : Int) < t.due)) = X :=
  List.filter_eq_self.mpr fun t ht => decide_eq_true (by have := h t ht; omega)
theorem flt_no {X : List Thing} (h : ∀ t, t ∈ X → 0 ≤ t.due ∧ t.due ≤ 1125899906842624) : X.filter (fun t => decide (t.due ≤ (-1 : Int))) = [] :=
  List.filter_eq_nil_iff.mpr fun t ht => by have := h t ht; simp; omega
theorem gt_last {T : List Int} {x j : Int} (h : j + 1 = (T ++ [x]).length) : gt (T ++ [x]) j = x := by
  rw [List.length_append, List.length_singleton] at h
  rw [gt_eq (by omega) (by simp; omega)]
  have : j.toNat = T.length := by omega
  simp [this]

/-! curfew/curfewlaw12.WheelSteps -/
set_option maxRecDepth 20000 in
theorem WheelSteps_c (now : Int) (B : Option Addr) (c : Nat) (L : List Thing) (B0 : Option Addr) (c0 : Nat) (T : List Int) (to_ : Int) (w : World) (hR : Rd w B 3 (L.map encThing)) (hS : Rd w B0 1 (T.map encI64)) : Does Try.prog 4 #[.int .i64 now, .slice B L.length c, .slice B0 T.length c0, .int .i64 to_] w (fun v w' => v = .bool true ∧ SH w noBlocks [] w') := by
  refine does_enter4 Try.func4 rfl Try.ntmps4 rfl ?_
  have H := SH.start w noBlocks
  refine tr_seq (fun K1 hK1 => ?_)
  -- region 0: law.go:111
  refine tr_region ?_
  refine tr_val (ov_assign rfl rfl) rfl rfl rfl ?_
  refine tr_nil (hK1 _ _ (TrC.keep [8, 0, 1, 2, 3] ?_))
  show TrC _ _ _ _ [(8, _), (0, _), (1, _), (2, _), (3, _)] _ _
  refine tr_seq (fun K2 hK2 => ?_)
  refine tr_seq (fun K3 hK3 => ?_)
  -- region 1: law.go:112
  refine tr_region ?_
  refine tr_val (ov_move rfl rfl) rfl rfl rfl ?_
  refine tr_val (ov_len rfl rfl Try.underlying32 rfl) rfl rfl rfl ?_
  refine tr_val (ov_gtr rfl rfl rfl) rfl rfl rfl ?_
  refine tr_val (ov_move rfl rfl) rfl rfl rfl ?_
  first | refine tr_split (t := 28) rfl (fun s28 => ?_) (fun s28 => ?_) | refine tr_splitb (t := 28) rfl (fun s28 => ?_) (fun s28 => ?_)
  · skip
    refine tr_pass rfl rfl rfl ?_
    refine tr_pass rfl rfl rfl ?_
    refine tr_pass rfl rfl rfl ?_
    refine tr_val (ov_pick (vb := undef) rfl rfl rfl rfl) rfl rfl rfl ?_
    refine tr_val (ov_move rfl rfl) rfl rfl rfl ?_
    refine tr_pass rfl rfl rfl ?_
    refine tr_pass rfl rfl rfl ?_
    refine tr_val (ov_pick (vb := undef) rfl rfl rfl rfl) rfl rfl rfl ?_
    refine tr_val (ov_move rfl rfl) rfl rfl rfl ?_
    refine tr_pass rfl rfl rfl ?_
    refine tr_pass rfl rfl rfl ?_
    refine tr_pass rfl rfl rfl ?_
    refine tr_val (ov_pick (vb := undef) rfl rfl rfl rfl) rfl rfl rfl ?_
    refine tr_val (ov_move rfl rfl) rfl rfl rfl ?_
    refine tr_pass rfl rfl rfl ?_
    refine tr_pass rfl rfl rfl ?_
    refine tr_val (ov_pick (vb := undef) rfl rfl rfl rfl) rfl rfl rfl ?_
    refine tr_nil (hK3 _ _ (TrC.keep [45, 8, 0, 1, 2, 3] ?_))
    show TrC _ _ _ _ [(45, _), (8, _), (0, _), (1, _), (2, _), (3, _)] _ _
    refine tr_cond_t rfl rfl ?_
    refine tr_seq (fun K4 hK4 => ?_)
    -- region 2: law.go:113
    refine tr_region ?_
    refine tr_call (lives12_c _) rfl rfl rfl Try.call13 rfl rfl rfl ?_
    rintro _ w1 ⟨rfl, HC⟩
    have H := H.call0n HC
    refine tr_val (ov_assign rfl rfl) rfl rfl rfl ?_
    refine tr_nil (hK4 _ _ (TrC.keep [8, 45, 0, 1, 2, 3] ?_))
    show TrC _ _ _ _ [(8, _), (45, _), (0, _), (1, _), (2, _), (3, _)] _ _
    refine tr_ret (post_ret1 (.inr rfl) rfl rfl ?_)
    first | exact ⟨rfl, H⟩ | exact ⟨rfl, H.drop0.drop0.drop0.drop0.drop0.drop0.drop0⟩
  · skip
    refine tr_val (ov_move rfl rfl) rfl rfl rfl ?_
    refine tr_val (ov_len rfl rfl Try.underlying22 rfl) rfl rfl rfl ?_
    refine tr_val (ov_gtr rfl rfl rfl) rfl rfl rfl ?_
    refine tr_val (ov_pick_f (va := undef) rfl rfl rfl rfl) rfl rfl rfl ?_
    refine tr_val (ov_move rfl rfl) rfl rfl rfl ?_
    first | refine tr_split (t := 33) rfl (fun s33 => ?_) (fun s33 => ?_) | refine tr_splitb (t := 33) rfl (fun s33 => ?_) (fun s33 => ?_)
    · skip
      refine tr_pass rfl rfl rfl ?_
      refine tr_pass rfl rfl rfl ?_
      refine tr_val (ov_pick (vb := undef) rfl rfl rfl rfl) rfl rfl rfl ?_
      refine tr_val (ov_move rfl rfl) rfl rfl rfl ?_
      refine tr_pass rfl rfl rfl ?_
      refine tr_pass rfl rfl rfl ?_
      refine tr_pass rfl rfl rfl ?_
      refine tr_val (ov_pick (vb := undef) rfl rfl rfl rfl) rfl rfl rfl ?_
      refine tr_val (ov_move rfl rfl) rfl rfl rfl ?_
      refine tr_pass rfl rfl rfl ?_
      refine tr_pass rfl rfl rfl ?_
      refine tr_val (ov_pick (vb := undef) rfl rfl rfl rfl) rfl rfl rfl ?_
      refine tr_nil (hK3 _ _ (TrC.keep [45, 8, 0, 1, 2, 3] ?_))
      show TrC _ _ _ _ [(45, _), (8, _), (0, _), (1, _), (2, _), (3, _)] _ _
      refine tr_cond_t rfl rfl ?_
      refine tr_seq (fun K5 hK5 => ?_)
      -- region 2: law.go:113
      refine tr_region ?_
      refine tr_call (lives12_c _) rfl rfl rfl Try.call13 rfl rfl rfl ?_
      rintro _ w2 ⟨rfl, HC⟩
      have H := H.call0n HC
      refine tr_val (ov_assign rfl rfl) rfl rfl rfl ?_
      refine tr_nil (hK5 _ _ (TrC.keep [8, 45, 0, 1, 2, 3] ?_))
      show TrC _ _ _ _ [(8, _), (45, _), (0, _), (1, _), (2, _), (3, _)] _ _
      refine tr_ret (post_ret1 (.inr rfl) rfl rfl ?_)
      first | exact ⟨rfl, H⟩ | exact ⟨rfl, H.drop0.drop0.drop0.drop0.drop0.drop0.drop0⟩
    · skip
      refine tr_val (ov_move rfl rfl) rfl rfl rfl ?_
      refine tr_val (ov_lss rfl rfl rfl) rfl rfl rfl ?_
      refine tr_val (ov_pick_f (va := undef) rfl rfl rfl rfl) rfl rfl rfl ?_
      refine tr_val (ov_move rfl rfl) rfl rfl rfl ?_
      first | refine tr_split (t := 37) rfl (fun s37 => ?_) (fun s37 => ?_) | refine tr_splitb (t := 37) rfl (fun s37 => ?_) (fun s37 => ?_)
      · skip
        refine tr_pass rfl rfl rfl ?_
        refine tr_pass rfl rfl rfl ?_
        refine tr_pass rfl rfl rfl ?_
        refine tr_val (ov_pick (vb := undef) rfl rfl rfl rfl) rfl rfl rfl ?_
        refine tr_val (ov_move rfl rfl) rfl rfl rfl ?_
        refine tr_pass rfl rfl rfl ?_
        refine tr_pass rfl rfl rfl ?_
        refine tr_val (ov_pick (vb := undef) rfl rfl rfl rfl) rfl rfl rfl ?_
        refine tr_nil (hK3 _ _ (TrC.keep [45, 8, 0, 1, 2, 3] ?_))
        show TrC _ _ _ _ [(45, _), (8, _), (0, _), (1, _), (2, _), (3, _)] _ _
        refine tr_cond_t rfl rfl ?_
        refine tr_seq (fun K6 hK6 => ?_)
        -- region 2: law.go:113
        refine tr_region ?_
        refine tr_call (lives12_c _) rfl rfl rfl Try.call13 rfl rfl rfl ?_
        rintro _ w3 ⟨rfl, HC⟩
        have H := H.call0n HC
        refine tr_val (ov_assign rfl rfl) rfl rfl rfl ?_
        refine tr_nil (hK6 _ _ (TrC.keep [8, 45, 0, 1, 2, 3] ?_))
        show TrC _ _ _ _ [(8, _), (45, _), (0, _), (1, _), (2, _), (3, _)] _ _
        refine tr_ret (post_ret1 (.inr rfl) rfl rfl ?_)
        first | exact ⟨rfl, H⟩ | exact ⟨rfl, H.drop0.drop0.drop0.drop0.drop0.drop0.drop0⟩
      · skip
        refine tr_val (ov_move rfl rfl) rfl rfl rfl ?_
        refine tr_val (ov_move rfl rfl) rfl rfl rfl ?_
        refine tr_val (ov_gtr rfl rfl rfl) rfl rfl rfl ?_
        refine tr_val (ov_pick_f (va := undef) rfl rfl rfl rfl) rfl rfl rfl ?_
        refine tr_val (ov_move rfl rfl) rfl rfl rfl ?_
        first | refine tr_split (t := 42) rfl (fun s42 => ?_) (fun s42 => ?_) | refine tr_splitb (t := 42) rfl (fun s42 => ?_) (fun s42 => ?_)
        · skip
          refine tr_pass rfl rfl rfl ?_
          refine tr_pass rfl rfl rfl ?_
          refine tr_val (ov_pick (vb := undef) rfl rfl rfl rfl) rfl rfl rfl ?_
          refine tr_nil (hK3 _ _ (TrC.keep [45, 8, 0, 1, 2, 3] ?_))
          show TrC _ _ _ _ [(45, _), (8, _), (0, _), (1, _), (2, _), (3, _)] _ _
          refine tr_cond_t rfl rfl ?_
          refine tr_seq (fun K7 hK7 => ?_)
          -- region 2: law.go:113
          refine tr_region ?_
          refine tr_call (lives12_c _) rfl rfl rfl Try.call13 rfl rfl rfl ?_
          rintro _ w4 ⟨rfl, HC⟩
          have H := H.call0n HC
          refine tr_val (ov_assign rfl rfl) rfl rfl rfl ?_
          refine tr_nil (hK7 _ _ (TrC.keep [8, 45, 0, 1, 2, 3] ?_))
          show TrC _ _ _ _ [(8, _), (45, _), (0, _), (1, _), (2, _), (3, _)] _ _
          refine tr_ret (post_ret1 (.inr rfl) rfl rfl ?_)
          first | exact ⟨rfl, H⟩ | exact ⟨rfl, H.drop0.drop0.drop0.drop0.drop0.drop0.drop0⟩
        · skip
          refine tr_val (ov_move rfl rfl) rfl rfl rfl ?_
          refine tr_val (ov_gtr rfl rfl rfl) rfl rfl rfl ?_
          refine tr_val (ov_pick_f (va := undef) rfl rfl rfl rfl) rfl rfl rfl ?_
          refine tr_nil (hK3 _ _ (TrC.keep [45, 8, 0, 1, 2, 3] ?_))
          show TrC _ _ _ _ [(45, _), (8, _), (0, _), (1, _), (2, _), (3, _)] _ _
          first | refine tr_cond rfl (fun c45 => ?_) (fun c45 => ?_) | refine tr_condb rfl (fun c45 => ?_) (fun c45 => ?_)
          · skip
            refine tr_seq (fun K8 hK8 => ?_)
            -- region 2: law.go:113
            refine tr_region ?_
            refine tr_call (lives12_c _) rfl rfl rfl Try.call13 rfl rfl rfl ?_
            rintro _ w5 ⟨rfl, HC⟩
            have H := H.call0n HC
            refine tr_val (ov_assign rfl rfl) rfl rfl rfl ?_
            refine tr_nil (hK8 _ _ (TrC.keep [8, 45, 0, 1, 2, 3] ?_))
            show TrC _ _ _ _ [(8, _), (45, _), (0, _), (1, _), (2, _), (3, _)] _ _
            refine tr_ret (post_ret1 (.inr rfl) rfl rfl ?_)
            first | exact ⟨rfl, H⟩ | exact ⟨rfl, H.drop0.drop0.drop0.drop0.drop0.drop0.drop0⟩
          · skip
            refine tr_skip (hK2 _ _ (TrC.keep [45, 8, 0, 1, 2, 3] ?_))
            show TrC _ _ _ _ [(45, _), (8, _), (0, _), (1, _), (2, _), (3, _)] _ _
            refine tr_seq (fun K9 hK9 => ?_)
            -- region 3: law.go:115
            refine tr_region ?_
            refine tr_val (ov_move rfl rfl) rfl rfl rfl ?_
            refine tr_call (wNew_c now _ (by omega)) rfl rfl rfl Try.call14 rfl rfl rfl ?_
            rintro _ w6 ⟨d1, La0, rfl, hA0, HC⟩
            have H := H.call0r HC
            refine tr_val (ov_move rfl rfl) rfl rfl rfl ?_
            refine tr_call (wNew_c now _ (by omega)) rfl rfl rfl Try.call14 rfl rfl rfl ?_
            rintro _ w7 ⟨d2, Lb0, rfl, hB0, HC⟩
            have H := H.call0r HC
            refine tr_val (ov_assign rfl rfl) rfl rfl rfl ?_
            refine tr_val (ov_assign rfl rfl) rfl rfl rfl ?_
            refine tr_nil (hK9 _ _ (TrC.keep [10, 9, 45, 8, 0, 1, 2, 3] ?_))
            show TrC _ _ _ _ [(10, _), (9, _), (45, _), (8, _), (0, _), (1, _), (2, _), (3, _)] _ _
            refine tr_seq (fun K10 hK10 => ?_)
            refine tr_seq (fun K11 hK11 => ?_)
            -- region 4: law.go:116
            refine tr_region ?_
            refine tr_val (ov_move rfl rfl) rfl rfl rfl ?_
            refine tr_val (ov_len rfl rfl Try.underlying32 rfl) rfl rfl rfl ?_
            refine tr_val (ov_move rfl rfl) rfl rfl rfl ?_
            refine tr_nil (hK11 _ _ (TrC.keep [53, 52, 51, 10, 9, 45, 8, 0, 1, 2, 3] ?_))
            show TrC _ _ _ _ [(53, _), (52, _), (51, _), (10, _), (9, _), (45, _), (8, _), (0, _), (1, _), (2, _), (3, _)] _ _
            refine tr_block ?_
            refine tr_loop_ (X := Int × List Thing × List Res × List Res) [52, 51, 10, 9, 45, 0, 1, 2, 3] (fun ⟨i, X, La, Lb⟩ => [(53, .int .i64 i)]) (fun ⟨i, X, La, Lb⟩ w' => 0 ≤ i ∧ i ≤ L.length ∧ WheelX 65 117 161 30 d1 now X La ∧ WheelX 65 117 161 30 d2 now X Lb ∧ SH w noBlocks [pack Lb, pack La] w') (fun ⟨i, X, La, Lb⟩ => (L.length - i).toNat) (⟨0, [], La0, Lb0⟩) (Sub.cons rfl (Sub.cons rfl (Sub.cons rfl (Sub.cons rfl (Sub.cons rfl (Sub.cons rfl (Sub.cons rfl (Sub.cons rfl (Sub.cons rfl (Sub.cons rfl Sub.nil)))))))))) (⟨by omega, by omega, hA0, hB0, H⟩) ?_
            rintro ⟨i, X, La, Lb⟩ w8 ⟨hi0, hi1, hA, hB, H⟩ K12 hK12
            show TrC _ _ _ _ [(53, _), (52, _), (51, _), (10, _), (9, _), (45, _), (0, _), (1, _), (2, _), (3, _)] _ _
            refine tr_seq (fun K13 hK13 => ?_)
            -- region 5: law.go:116
            refine tr_region ?_
            refine tr_val (ov_lss rfl rfl rfl) rfl rfl rfl ?_
            refine tr_nil (hK13 _ _ (TrC.keep [54, 53, 52, 51, 10, 9, 45, 0, 1, 2, 3] ?_))
            show TrC _ _ _ _ [(54, _), (53, _), (52, _), (51, _), (10, _), (9, _), (45, _), (0, _), (1, _), (2, _), (3, _)] _ _
            refine tr_seq (fun K14 hK14 => ?_)
            first | refine tr_cond rfl (fun c54 => ?_) (fun c54 => ?_) | refine tr_condb rfl (fun c54 => ?_) (fun c54 => ?_)
            · skip
              refine tr_skip (hK14 _ _ (TrC.keep [54, 53, 52, 51, 10, 9, 45, 0, 1, 2, 3] ?_))
              show TrC _ _ _ _ [(54, _), (53, _), (52, _), (51, _), (10, _), (9, _), (45, _), (0, _), (1, _), (2, _), (3, _)] _ _
              refine tr_seq (fun K15 hK15 => ?_)
              refine tr_block ?_
              refine tr_seq (fun K16 hK16 => ?_)
              -- region 6: law.go:116
              refine tr_region ?_
              refine tr_val (ov_indexAddrR (H.rd0 hR) rfl Try.underlying32 (Try.sizeOf30 _) rfl rfl (by omega) (by omega)) rfl rfl rfl ?_
              refine tr_val (ld_Thing (H.rd0 hR) rfl (Try.isAgg30 _) (Try.sizeOf30 _) rfl (by omega) (by omega)) rfl rfl rfl ?_
              refine tr_alloc H rfl (Try.zeroValue30 _) rfl rfl rfl rfl ?_
              intro b12 w9 hb12 H
              first | (refine tr_storeW H.get0 rfl (Try.sizeOf30 _) rfl rfl rfl rfl rfl rfl rfl rfl ?_; intro w10 U; have H := H.upd0 U; clear U) | (refine tr_storeW H.get1 rfl (Try.sizeOf30 _) rfl rfl rfl rfl rfl rfl rfl rfl ?_; intro w10 U; have H := H.upd1 U; clear U) | (refine tr_storeW H.get2 rfl (Try.sizeOf30 _) rfl rfl rfl rfl rfl rfl rfl rfl ?_; intro w10 U; have H := H.upd2 U; clear U) | (refine tr_storeW H.get3 rfl (Try.sizeOf30 _) rfl rfl rfl rfl rfl rfl rfl rfl ?_; intro w10 U; have H := H.upd3 U; clear U) | (refine tr_storeW H.get4 rfl (Try.sizeOf30 _) rfl rfl rfl rfl rfl rfl rfl rfl ?_; intro w10 U; have H := H.upd4 U; clear U) | (refine tr_storeW H.get5 rfl (Try.sizeOf30 _) rfl rfl rfl rfl rfl rfl rfl rfl ?_; intro w10 U; have H := H.upd5 U; clear U) | (refine tr_storeW H.get6 rfl (Try.sizeOf30 _) rfl rfl rfl rfl rfl rfl rfl rfl ?_; intro w10 U; have H := H.upd6 U; clear U) | (refine tr_storeW H.get7 rfl (Try.sizeOf30 _) rfl rfl rfl rfl rfl rfl rfl rfl ?_; intro w10 U; have H := H.upd7 U; clear U) | (refine tr_storeW H.get8 rfl (Try.sizeOf30 _) rfl rfl rfl rfl rfl rfl rfl rfl ?_; intro w10 U; have H := H.upd8 U; clear U)
              refine tr_nil (hK16 _ _ (TrC.keep [12, 54, 53, 52, 51, 10, 9, 45, 0, 1, 2, 3] ?_))
              show TrC _ _ _ _ [(12, _), (54, _), (53, _), (52, _), (51, _), (10, _), (9, _), (45, _), (0, _), (1, _), (2, _), (3, _)] _ _
              refine tr_seq (fun K17 hK17 => ?_)
              -- region 7: law.go:117
              refine tr_held (fun w' => (blk b12 30 [.int .u64 (gt L i).id, .int .u64 (gt L i).gen, .int .i64 (gt L i).due]).holds w') mixed rfl H ?_
              intro w11 H
              refine th_take 0 rfl (by kernel_rfl) (by kernel_rfl) (by kernel_rfl) ((by first | exact H.get0 | exact H.get1 | exact H.get2)) (fun _ hS => ov_move rfl rfl) rfl rfl rfl ?_
              first | refine th_take 1 rfl (by kernel_rfl) (by kernel_rfl) (by kernel_rfl) ((by first | exact H.get0 | exact H.get1 | exact H.get2)) (fun _ hS => ov_load_blkN hS rfl (Try.isAgg30 _) (Try.sizeOf30 _) rfl rfl rfl) rfl rfl rfl ?_ | refine th_take 1 rfl (by kernel_rfl) (by kernel_rfl) (by kernel_rfl) ((by first | exact H.get0 | exact H.get1 | exact H.get2)) (fun _ hS => ov_load_blkN hS.1 rfl (Try.isAgg30 _) (Try.sizeOf30 _) rfl rfl rfl) rfl rfl rfl ?_ | refine th_take 1 rfl (by kernel_rfl) (by kernel_rfl) (by kernel_rfl) ((by first | exact H.get0 | exact H.get1 | exact H.get2)) (fun _ hS => ov_load_blkN hS.2.1 rfl (Try.isAgg30 _) (Try.sizeOf30 _) rfl rfl rfl) rfl rfl rfl ?_ | refine th_take 1 rfl (by kernel_rfl) (by kernel_rfl) (by kernel_rfl) ((by first | exact H.get0 | exact H.get1 | exact H.get2)) (fun _ hS => ov_load_blkN hS.2.2.1 rfl (Try.isAgg30 _) (Try.sizeOf30 _) rfl rfl rfl) rfl rfl rfl ?_ | refine th_take 1 rfl (by kernel_rfl) (by kernel_rfl) (by kernel_rfl) ((by first | exact H.get0 | exact H.get1 | exact H.get2)) (fun _ hS => ov_load_blkN hS.2.2.2.1 rfl (Try.isAgg30 _) (Try.sizeOf30 _) rfl rfl rfl) rfl rfl rfl ?_ | refine th_take 1 rfl (by kernel_rfl) (by kernel_rfl) (by kernel_rfl) ((by first | exact H.get0 | exact H.get1 | exact H.get2)) (fun _ hS => ov_load_blkN hS.2.2.2.2.1 rfl (Try.isAgg30 _) (Try.sizeOf30 _) rfl rfl rfl) rfl rfl rfl ?_ | refine th_take 1 rfl (by kernel_rfl) (by kernel_rfl) (by kernel_rfl) ((by first | exact H.get0 | exact H.get1 | exact H.get2)) (fun _ hS => ov_load_blkN hS.2 rfl (Try.isAgg30 _) (Try.sizeOf30 _) rfl rfl rfl) rfl rfl rfl ?_ | refine th_take 1 rfl (by kernel_rfl) (by kernel_rfl) (by kernel_rfl) ((by first | exact H.get0 | exact H.get1 | exact H.get2)) (fun _ hS => ov_load_blkN hS.2.2 rfl (Try.isAgg30 _) (Try.sizeOf30 _) rfl rfl rfl) rfl rfl rfl ?_ | refine th_take 1 rfl (by kernel_rfl) (by kernel_rfl) (by kernel_rfl) ((by first | exact H.get0 | exact H.get1 | exact H.get2)) (fun _ hS => ov_load_blkN hS.2.2.2 rfl (Try.isAgg30 _) (Try.sizeOf30 _) rfl rfl rfl) rfl rfl rfl ?_ | refine th_take 1 rfl (by kernel_rfl) (by kernel_rfl) (by kernel_rfl) ((by first | exact H.get0 | exact H.get1 | exact H.get2)) (fun _ hS => ov_load_blkN hS.2.2.2.2 rfl (Try.isAgg30 _) (Try.sizeOf30 _) rfl rfl rfl) rfl rfl rfl ?_
              refine th_take 3 rfl (by kernel_rfl) (by kernel_rfl) (by kernel_rfl) ((by first | exact H.get0 | exact H.get1 | exact H.get2)) (fun _ hS => ov_move rfl rfl) rfl rfl rfl ?_
              first | refine th_take 4 rfl (by kernel_rfl) (by kernel_rfl) (by kernel_rfl) ((by first | exact H.get0 | exact H.get1 | exact H.get2)) (fun _ hS => ov_load_blkN hS rfl (Try.isAgg30 _) (Try.sizeOf30 _) rfl rfl rfl) rfl rfl rfl ?_ | refine th_take 4 rfl (by kernel_rfl) (by kernel_rfl) (by kernel_rfl) ((by first | exact H.get0 | exact H.get1 | exact H.get2)) (fun _ hS => ov_load_blkN hS.1 rfl (Try.isAgg30 _) (Try.sizeOf30 _) rfl rfl rfl) rfl rfl rfl ?_ | refine th_take 4 rfl (by kernel_rfl) (by kernel_rfl) (by kernel_rfl) ((by first | exact H.get0 | exact H.get1 | exact H.get2)) (fun _ hS => ov_load_blkN hS.2.1 rfl (Try.isAgg30 _) (Try.sizeOf30 _) rfl rfl rfl) rfl rfl rfl ?_ | refine th_take 4 rfl (by kernel_rfl) (by kernel_rfl) (by kernel_rfl) ((by first | exact H.get0 | exact H.get1 | exact H.get2)) (fun _ hS => ov_load_blkN hS.2.2.1 rfl (Try.isAgg30 _) (Try.sizeOf30 _) rfl rfl rfl) rfl rfl rfl ?_ | refine th_take 4 rfl (by kernel_rfl) (by kernel_rfl) (by kernel_rfl) ((by first | exact H.get0 | exact H.get1 | exact H.get2)) (fun _ hS => ov_load_blkN hS.2.2.2.1 rfl (Try.isAgg30 _) (Try.sizeOf30 _) rfl rfl rfl) rfl rfl rfl ?_ | refine th_take 4 rfl (by kernel_rfl) (by kernel_rfl) (by kernel_rfl) ((by first | exact H.get0 | exact H.get1 | exact H.get2)) (fun _ hS => ov_load_blkN hS.2.2.2.2.1 rfl (Try.isAgg30 _) (Try.sizeOf30 _) rfl rfl rfl) rfl rfl rfl ?_ | refine th_take 4 rfl (by kernel_rfl) (by kernel_rfl) (by kernel_rfl) ((by first | exact H.get0 | exact H.get1 | exact H.get2)) (fun _ hS => ov_load_blkN hS.2 rfl (Try.isAgg30 _) (Try.sizeOf30 _) rfl rfl rfl) rfl rfl rfl ?_ | refine th_take 4 rfl (by kernel_rfl) (by kernel_rfl) (by kernel_rfl) ((by first | exact H.get0 | exact H.get1 | exact H.get2)) (fun _ hS => ov_load_blkN hS.2.2 rfl (Try.isAgg30 _) (Try.sizeOf30 _) rfl rfl rfl) rfl rfl rfl ?_ | refine th_take 4 rfl (by kernel_rfl) (by kernel_rfl) (by kernel_rfl) ((by first | exact H.get0 | exact H.get1 | exact H.get2)) (fun _ hS => ov_load_blkN hS.2.2.2 rfl (Try.isAgg30 _) (Try.sizeOf30 _) rfl rfl rfl) rfl rfl rfl ?_ | refine th_take 4 rfl (by kernel_rfl) (by kernel_rfl) (by kernel_rfl) ((by first | exact H.get0 | exact H.get1 | exact H.get2)) (fun _ hS => ov_load_blkN hS.2.2.2.2 rfl (Try.isAgg30 _) (Try.sizeOf30 _) rfl rfl rfl) rfl rfl rfl ?_
              refine th_one 2 (by kernel_rfl) ?_
              refine tw_call (wArm_c d1 now X La _ hA H.get2 (gt L i)) rfl rfl rfl rfl Try.call15 rfl rfl rfl ?_
              rintro _ w12 ⟨rfl, La1, hA1, HC⟩
              have H := H.top2.call1 HC
              refine ⟨(by first | exact H.get0 | exact H.get1 | exact H.get2), ?_⟩
              refine th_one 5 (by kernel_rfl) ?_
              refine tw_call (wArm_c d2 now X Lb _ hB H.get2 (gt L i)) rfl rfl rfl rfl Try.call15 rfl rfl rfl ?_
              rintro _ w13 ⟨rfl, Lb1, hB1, HC⟩
              have H := H.top2.call1 HC
              refine ⟨(by first | exact H.get0 | exact H.get1 | exact H.get2), ?_⟩
              refine th_take 6 rfl (by kernel_rfl) (by kernel_rfl) (by kernel_rfl) ((by first | exact H.get0 | exact H.get1 | exact H.get2)) (fun _ hS => ov_neq rfl rfl rfl) rfl rfl rfl ?_
              refine th_done (by kernel_rfl) ?_
              refine hK17 _ _ (TrC.keep [63, 12, 54, 53, 52, 51, 10, 9, 45, 0, 1, 2, 3] ?_)
              show TrC _ _ _ _ [(63, _), (12, _), (54, _), (53, _), (52, _), (51, _), (10, _), (9, _), (45, _), (0, _), (1, _), (2, _), (3, _)] _ _
              first | refine tr_cond rfl (fun c63 => ?_) (fun c63 => ?_) | refine tr_condb rfl (fun c63 => ?_) (fun c63 => ?_)
              · exact absurd rfl c63
              · skip
                refine tr_skip (hK15 _ _ (TrC.keep [63, 12, 54, 53, 52, 51, 10, 9, 45, 0, 1, 2, 3] ?_))
                show TrC _ _ _ _ [(63, _), (12, _), (54, _), (53, _), (52, _), (51, _), (10, _), (9, _), (45, _), (0, _), (1, _), (2, _), (3, _)] _ _
                -- region 9: law.go:116
                refine tr_region ?_
                refine tr_val (ov_add rfl rfl rfl (w64 (by omega))) rfl rfl rfl ?_
                refine tr_val (ov_move rfl rfl) rfl rfl rfl ?_
                skip
                exact tr_nil (hK12 (⟨i + 1, (armV X (gt L i)).1, La1, Lb1⟩) _ _ (⟨by omega, by omega, hA1, hB1, H.drop2⟩) (by first | omega | (dsimp only; omega)) (Sub.cons rfl (Sub.cons rfl (Sub.cons rfl (Sub.cons rfl (Sub.cons rfl (Sub.cons rfl (Sub.cons rfl (Sub.cons rfl (Sub.cons rfl (Sub.cons rfl Sub.nil)))))))))))
            · skip
              refine tr_exit (hK10 _ _ (TrC.keep [54, 53, 52, 51, 10, 9, 45, 0, 1, 2, 3] ?_))
              show TrC _ _ _ _ [(54, _), (53, _), (52, _), (51, _), (10, _), (9, _), (45, _), (0, _), (1, _), (2, _), (3, _)] _ _
              refine tr_seq (fun K18 hK18 => ?_)
              -- region 10: law.go:121
              have he : advE now to_ = 0 := advE_zero (by omega)
              have e1 : advF now to_ X = (sortT (X.filter fun t => decide (t.due ≤ to_))) := by unfold advF; rw [if_pos he]
              have e2 : advX now to_ X = (X.filter fun t => decide (to_ < t.due)) := by unfold advX; rw [if_pos he]
              have e3 : advN now to_ = to_ := by unfold advN; rw [if_pos he]
              obtain ⟨hids, hdue, hfew⟩ := dues_of hA
              have hfl1 := List.length_filter_le (fun t : Thing => decide (t.due ≤ to_)) X
              refine tr_region ?_
              refine tr_val (ov_move rfl rfl) rfl rfl rfl ?_
              refine tr_val (ov_move rfl rfl) rfl rfl rfl ?_
              refine tr_call (wAdvance_c d1 now X La _ hA H.get1 to_) rfl rfl rfl Try.call16 rfl rfl rfl ?_
              rintro _ w14 ⟨A1, c1, rfl, La1, hA1, HC⟩
              have H := H.top1.call1e HC
              rw [he, e1]
              rw [e1] at H
              rw [e2, e3] at hA1
              refine tr_val (ov_move rfl rfl) rfl rfl rfl ?_
              refine tr_val (ov_extract rfl rfl rfl) rfl rfl rfl ?_
              refine tr_val (ov_extract rfl rfl rfl) rfl rfl rfl ?_
              refine tr_val (ov_assign rfl rfl) rfl rfl rfl ?_
              refine tr_val (ov_assign rfl rfl) rfl rfl rfl ?_
              refine tr_nil (hK18 _ _ (TrC.keep [14, 13, 54, 53, 52, 51, 10, 9, 45, 0, 1, 2, 3] ?_))
              show TrC _ _ _ _ [(14, _), (13, _), (54, _), (53, _), (52, _), (51, _), (10, _), (9, _), (45, _), (0, _), (1, _), (2, _), (3, _)] _ _
              refine tr_seq (fun K19 hK19 => ?_)
              -- region 11: law.go:122
              refine tr_region ?_
              refine tr_val (ov_assign rfl rfl) rfl rfl rfl ?_
              refine tr_nil (hK19 _ _ (TrC.keep [15, 14, 13, 54, 53, 52, 51, 10, 9, 45, 0, 1, 2, 3] ?_))
              show TrC _ _ _ _ [(15, _), (14, _), (13, _), (54, _), (53, _), (52, _), (51, _), (10, _), (9, _), (45, _), (0, _), (1, _), (2, _), (3, _)] _ _
              refine tr_seq (fun K20 hK20 => ?_)
              -- region 12: law.go:123
              have H := H.addNil 30 3 encThing
              refine tr_region ?_
              refine tr_val (ov_move rfl rfl) rfl rfl rfl ?_
              refine tr_val (ov_assign rfl rfl) rfl rfl rfl ?_
              refine tr_nil (hK20 _ _ (TrC.keep [16, 15, 14, 13, 54, 53, 52, 51, 10, 9, 45, 0, 1, 2, 3] ?_))
              show TrC _ _ _ _ [(16, _), (15, _), (14, _), (13, _), (54, _), (53, _), (52, _), (51, _), (10, _), (9, _), (45, _), (0, _), (1, _), (2, _), (3, _)] _ _
              refine tr_seq (fun K21 hK21 => ?_)
              refine tr_seq (fun K22 hK22 => ?_)
              -- region 13: law.go:124
              refine tr_region ?_
              refine tr_buildSlice0 H rfl Try.underlying22 info2 rfl rfl rfl ?_
              intro b72 w720 hb72 H
              have H := H.upd0 (upd_vec_of_blk (L := ([] : List Int)) (enc := encI64) (sz := 1) H.get0 rfl lenI64 (by simp))
              refine tr_val (ov_move rfl rfl) rfl rfl rfl ?_
              refine tr_append (M := T) H.get0 (H.rd0 hS) rfl rfl rfl Try.underlying22 info2 rfl rfl (show Try.t2.bytes = 8 from rfl) rfl (by decide) lenI64 oneI64 (by simp; omega) (by unfold maxLen; simp; omega) rfl rfl rfl ?_
              intro A4 c4 wA4 U
              have H := H.upd0 U; clear U
              rw [List.nil_append] at H ⊢
              refine tr_val (ov_move rfl rfl) rfl rfl rfl ?_
              refine tr_buildSlice H rfl Try.underlying22 info2 rfl (fun ρ k => bs1 k rfl) (by decide) (by decide) (fill_I64_1 _) rfl rfl rfl ?_
              intro b76 w760 hb76 H
              refine tr_append (M := [to_]) H.get1 (rd_blk [to_] H.get0 rfl lenI64) rfl rfl rfl Try.underlying22 info2 rfl rfl (show Try.t2.bytes = 8 from rfl) rfl (by decide) lenI64 oneI64 (by simp; omega) (by unfold maxLen; simp; omega) rfl rfl rfl ?_
              intro A3 c3 wA3 U
              have H := H.upd1 U; clear U
              have H := H.drop0
              have H := H.top4
              have hTl : ((T ++ [to_]).length : Int) = T.length + 1 := by simp
              refine tr_val (ov_len rfl rfl Try.underlying22 rfl) rfl rfl rfl ?_
              refine tr_val (ov_move rfl rfl) rfl rfl rfl ?_
              refine tr_nil (hK22 _ _ (TrC.keep [79, 78, 77, 16, 15, 14, 13, 54, 53, 52, 51, 10, 9, 45, 0, 1, 2, 3] ?_))
              show TrC _ _ _ _ [(79, _), (78, _), (77, _), (16, _), (15, _), (14, _), (13, _), (54, _), (53, _), (52, _), (51, _), (10, _), (9, _), (45, _), (0, _), (1, _), (2, _), (3, _)] _ _
              refine tr_block ?_
              refine tr_loop_ (X := Int × Int × Int × List Thing × Option Addr × Nat × List Res) [78, 77, 14, 13, 54, 53, 52, 51, 10, 9, 45, 0, 1, 2, 3] (fun ⟨j, b, ta, M, A2, c2, Lb⟩ => [(79, .int .i64 j), (16, .int .i64 ta), (15, .slice A2 M.length c2)]) (fun ⟨j, b, ta, M, A2, c2, Lb⟩ w' => 0 ≤ j ∧ j ≤ (T ++ [to_]).length ∧ b ≤ ta ∧ (now ≤ ta ∧ ta ≤ to_) ∧ (j = (T ++ [to_]).length → b = to_) ∧ M.Perm (X.filter fun t => decide (t.due ≤ b)) ∧ WheelX 65 117 161 30 d2 ta (X.filter fun t => decide (b < t.due)) Lb ∧ SH w noBlocks [pack Lb, vec A3 c3 2 1 encI64 (T ++ [to_]), vec A2 c2 30 3 encThing M, vec A1 c1 30 3 encThing (sortT (X.filter fun t => decide (t.due ≤ to_))), pack La1] w') (fun ⟨j, b, ta, M, A2, c2, Lb⟩ => ((T ++ [to_]).length - j).toNat) (⟨0, -1, now, [], none, 0, Lb⟩) (Sub.cons rfl (Sub.cons rfl (Sub.cons rfl (Sub.cons rfl (Sub.cons rfl (Sub.cons rfl (Sub.cons rfl (Sub.cons rfl (Sub.cons rfl (Sub.cons rfl (Sub.cons rfl (Sub.cons rfl (Sub.cons rfl (Sub.cons rfl (Sub.cons rfl (Sub.cons rfl (Sub.cons rfl (Sub.cons rfl Sub.nil)))))))))))))))))) (⟨by omega, by omega, by omega, by omega, fun h => by simp at h; omega, by rw [flt_no hdue], by rw [flt_all hdue]; exact hB, H⟩) ?_
              rintro ⟨j, b, ta, M, A2, c2, Lb⟩ w15 ⟨hj0, hj1, hb, hta, hlast, hmp, hB, H⟩ K23 hK23
              show TrC _ _ _ _ [(79, _), (16, _), (15, _), (78, _), (77, _), (14, _), (13, _), (54, _), (53, _), (52, _), (51, _), (10, _), (9, _), (45, _), (0, _), (1, _), (2, _), (3, _)] _ _
              refine tr_seq (fun K24 hK24 => ?_)
              -- region 14: law.go:124
              refine tr_region ?_
              refine tr_val (ov_lss rfl rfl rfl) rfl rfl rfl ?_
              refine tr_nil (hK24 _ _ (TrC.keep [80, 79, 16, 15, 78, 77, 14, 13, 54, 53, 52, 51, 10, 9, 45, 0, 1, 2, 3] ?_))
              show TrC _ _ _ _ [(80, _), (79, _), (16, _), (15, _), (78, _), (77, _), (14, _), (13, _), (54, _), (53, _), (52, _), (51, _), (10, _), (9, _), (45, _), (0, _), (1, _), (2, _), (3, _)] _ _
              refine tr_seq (fun K25 hK25 => ?_)
              first | refine tr_cond rfl (fun c80 => ?_) (fun c80 => ?_) | refine tr_condb rfl (fun c80 => ?_) (fun c80 => ?_)
              · skip
                refine tr_skip (hK25 _ _ (TrC.keep [80, 79, 16, 15, 78, 77, 14, 13, 54, 53, 52, 51, 10, 9, 45, 0, 1, 2, 3] ?_))
                show TrC _ _ _ _ [(80, _), (79, _), (16, _), (15, _), (78, _), (77, _), (14, _), (13, _), (54, _), (53, _), (52, _), (51, _), (10, _), (9, _), (45, _), (0, _), (1, _), (2, _), (3, _)] _ _
                refine tr_seq (fun K26 hK26 => ?_)
                refine tr_block ?_
                refine tr_seq (fun K27 hK27 => ?_)
                -- region 15: law.go:124
                refine tr_region ?_
                refine tr_val (ov_indexAddrR (vec_rd H.get1 lenI64 (by decide)) rfl Try.underlying22 (Try.sizeOf2 _) rfl rfl (by omega) (by omega)) rfl rfl rfl ?_
                refine tr_val (ld_I64 (vec_rd H.get1 lenI64 (by decide)) rfl (Try.isAgg2 _) rfl (by omega) (by omega)) rfl rfl rfl ?_
                refine tr_val (ov_assign rfl rfl) rfl rfl rfl ?_
                refine tr_nil (hK27 _ _ (TrC.keep [18, 80, 79, 16, 15, 78, 77, 14, 13, 54, 53, 52, 51, 10, 9, 45, 0, 1, 2, 3] ?_))
                show TrC _ _ _ _ [(18, _), (80, _), (79, _), (16, _), (15, _), (78, _), (77, _), (14, _), (13, _), (54, _), (53, _), (52, _), (51, _), (10, _), (9, _), (45, _), (0, _), (1, _), (2, _), (3, _)] _ _
                refine tr_seq (fun K28 hK28 => ?_)
                refine tr_seq (fun K29 hK29 => ?_)
                -- region 16: law.go:125
                refine tr_region ?_
                refine tr_val (ov_move rfl rfl) rfl rfl rfl ?_
                refine tr_val (ov_move rfl rfl) rfl rfl rfl ?_
                refine tr_val (ov_lss rfl rfl rfl) rfl rfl rfl ?_
                refine tr_val (ov_move rfl rfl) rfl rfl rfl ?_
                first | refine tr_split (t := 86) rfl (fun s86 => ?_) (fun s86 => ?_) | refine tr_splitb (t := 86) rfl (fun s86 => ?_) (fun s86 => ?_)
                · skip
                  refine tr_pass rfl rfl rfl ?_
                  refine tr_pass rfl rfl rfl ?_
                  refine tr_pass rfl rfl rfl ?_
                  refine tr_val (ov_pick (vb := undef) rfl rfl rfl rfl) rfl rfl rfl ?_
                  refine tr_nil (hK29 _ _ (TrC.keep [90, 18, 80, 79, 16, 15, 78, 77, 14, 13, 54, 53, 52, 51, 10, 9, 45, 0, 1, 2, 3] ?_))
                  show TrC _ _ _ _ [(90, _), (18, _), (80, _), (79, _), (16, _), (15, _), (78, _), (77, _), (14, _), (13, _), (54, _), (53, _), (52, _), (51, _), (10, _), (9, _), (45, _), (0, _), (1, _), (2, _), (3, _)] _ _
                  refine tr_cond_t rfl rfl ?_
                  refine tr_exit (hK26 _ _ (TrC.keep [90, 18, 80, 79, 16, 15, 78, 77, 14, 13, 54, 53, 52, 51, 10, 9, 45, 0, 1, 2, 3] ?_))
                  show TrC _ _ _ _ [(90, _), (18, _), (80, _), (79, _), (16, _), (15, _), (78, _), (77, _), (14, _), (13, _), (54, _), (53, _), (52, _), (51, _), (10, _), (9, _), (45, _), (0, _), (1, _), (2, _), (3, _)] _ _
                  -- region 22: law.go:124
                  refine tr_region ?_
                  refine tr_val (ov_add rfl rfl rfl (w64 (by omega))) rfl rfl rfl ?_
                  refine tr_val (ov_move rfl rfl) rfl rfl rfl ?_
                  skip
                  exact tr_nil (hK23 (⟨j + 1, b, ta, M, A2, c2, Lb⟩) _ _ (⟨by omega, by omega, by omega, by omega, fun h => by have := gt_last h; omega, hmp, hB, H⟩) (by first | omega | (dsimp only; omega)) (Sub.cons rfl (Sub.cons rfl (Sub.cons rfl (Sub.cons rfl (Sub.cons rfl (Sub.cons rfl (Sub.cons rfl (Sub.cons rfl (Sub.cons rfl (Sub.cons rfl (Sub.cons rfl (Sub.cons rfl (Sub.cons rfl (Sub.cons rfl (Sub.cons rfl (Sub.cons rfl (Sub.cons rfl (Sub.cons rfl Sub.nil)))))))))))))))))))
                · skip
                  refine tr_val (ov_move rfl rfl) rfl rfl rfl ?_
                  refine tr_val (ov_move rfl rfl) rfl rfl rfl ?_
                  refine tr_val (ov_gtr rfl rfl rfl) rfl rfl rfl ?_
                  refine tr_val (ov_pick_f (va := undef) rfl rfl rfl rfl) rfl rfl rfl ?_
                  refine tr_nil (hK29 _ _ (TrC.keep [90, 18, 80, 79, 16, 15, 78, 77, 14, 13, 54, 53, 52, 51, 10, 9, 45, 0, 1, 2, 3] ?_))
                  show TrC _ _ _ _ [(90, _), (18, _), (80, _), (79, _), (16, _), (15, _), (78, _), (77, _), (14, _), (13, _), (54, _), (53, _), (52, _), (51, _), (10, _), (9, _), (45, _), (0, _), (1, _), (2, _), (3, _)] _ _
                  first | refine tr_cond rfl (fun c90 => ?_) (fun c90 => ?_) | refine tr_condb rfl (fun c90 => ?_) (fun c90 => ?_)
                  · skip
                    refine tr_exit (hK26 _ _ (TrC.keep [90, 18, 80, 79, 16, 15, 78, 77, 14, 13, 54, 53, 52, 51, 10, 9, 45, 0, 1, 2, 3] ?_))
                    show TrC _ _ _ _ [(90, _), (18, _), (80, _), (79, _), (16, _), (15, _), (78, _), (77, _), (14, _), (13, _), (54, _), (53, _), (52, _), (51, _), (10, _), (9, _), (45, _), (0, _), (1, _), (2, _), (3, _)] _ _
                    -- region 22: law.go:124
                    refine tr_region ?_
                    refine tr_val (ov_add rfl rfl rfl (w64 (by omega))) rfl rfl rfl ?_
                    refine tr_val (ov_move rfl rfl) rfl rfl rfl ?_
                    skip
                    exact tr_nil (hK23 (⟨j + 1, b, ta, M, A2, c2, Lb⟩) _ _ (⟨by omega, by omega, by omega, by omega, fun h => by have := gt_last h; omega, hmp, hB, H⟩) (by first | omega | (dsimp only; omega)) (Sub.cons rfl (Sub.cons rfl (Sub.cons rfl (Sub.cons rfl (Sub.cons rfl (Sub.cons rfl (Sub.cons rfl (Sub.cons rfl (Sub.cons rfl (Sub.cons rfl (Sub.cons rfl (Sub.cons rfl (Sub.cons rfl (Sub.cons rfl (Sub.cons rfl (Sub.cons rfl (Sub.cons rfl (Sub.cons rfl Sub.nil)))))))))))))))))))
                  · skip
                    refine tr_skip (hK28 _ _ (TrC.keep [90, 18, 80, 79, 16, 15, 78, 77, 14, 13, 54, 53, 52, 51, 10, 9, 45, 0, 1, 2, 3] ?_))
                    show TrC _ _ _ _ [(90, _), (18, _), (80, _), (79, _), (16, _), (15, _), (78, _), (77, _), (14, _), (13, _), (54, _), (53, _), (52, _), (51, _), (10, _), (9, _), (45, _), (0, _), (1, _), (2, _), (3, _)] _ _
                    refine tr_seq (fun K30 hK30 => ?_)
                    -- region 17: law.go:128
                    have he2 : advE ta (gt (T ++ [to_]) j) = 0 := advE_zero (by omega)
                    have f1 : advF ta (gt (T ++ [to_]) j) (X.filter fun t => decide (b < t.due)) = (sortT ((X.filter fun t => decide (b < t.due)).filter fun t => decide (t.due ≤ (gt (T ++ [to_]) j)))) := by unfold advF; rw [if_pos he2]
                    have f2 : advX ta (gt (T ++ [to_]) j) (X.filter fun t => decide (b < t.due)) = (X.filter fun t => decide ((gt (T ++ [to_]) j) < t.due)) := by unfold advX; rw [if_pos he2]; exact adv_rest (by omega)
                    have f3 : advN ta (gt (T ++ [to_]) j) = (gt (T ++ [to_]) j) := by unfold advN; rw [if_pos he2]
                    refine tr_region ?_
                    refine tr_val (ov_move rfl rfl) rfl rfl rfl ?_
                    refine tr_val (ov_move rfl rfl) rfl rfl rfl ?_
                    refine tr_call (wAdvance_c d2 ta (X.filter fun t => decide (b < t.due)) Lb _ hB H.get0 (gt (T ++ [to_]) j)) rfl rfl rfl Try.call16 rfl rfl rfl ?_
                    rintro _ w16 ⟨A5, c5, rfl, Lb1, hB1, HC⟩
                    have H := H.call1e HC
                    rw [he2, f1]
                    rw [f1] at H
                    rw [f2, f3] at hB1
                    have hpp := adv_perm (by omega : b ≤ gt (T ++ [to_]) j) hmp (sortT_perm _)
                    have hl1 := hpp.length_eq
                    have hl2 := List.length_filter_le (fun t : Thing => decide (t.due ≤ gt (T ++ [to_]) j)) X
                    rw [List.length_append] at hl1
                    refine tr_val (ov_move rfl rfl) rfl rfl rfl ?_
                    refine tr_val (ov_extract rfl rfl rfl) rfl rfl rfl ?_
                    refine tr_val (ov_extract rfl rfl rfl) rfl rfl rfl ?_
                    refine tr_val (ov_assign rfl rfl) rfl rfl rfl ?_
                    refine tr_val (ov_assign rfl rfl) rfl rfl rfl ?_
                    refine tr_nil (hK30 _ _ (TrC.keep [20, 19, 90, 18, 80, 79, 16, 15, 78, 77, 14, 13, 54, 53, 52, 51, 10, 9, 45, 0, 1, 2, 3] ?_))
                    show TrC _ _ _ _ [(20, _), (19, _), (90, _), (18, _), (80, _), (79, _), (16, _), (15, _), (78, _), (77, _), (14, _), (13, _), (54, _), (53, _), (52, _), (51, _), (10, _), (9, _), (45, _), (0, _), (1, _), (2, _), (3, _)] _ _
                    refine tr_seq (fun K31 hK31 => ?_)
                    refine tr_seq (fun K32 hK32 => ?_)
                    -- region 18: law.go:129
                    refine tr_region ?_
                    refine tr_val (ov_move rfl rfl) rfl rfl rfl ?_
                    refine tr_val (ov_neq rfl rfl rfl) rfl rfl rfl ?_
                    refine tr_nil (hK32 _ _ (TrC.keep [98, 19, 90, 18, 80, 79, 16, 15, 78, 77, 14, 13, 54, 53, 52, 51, 10, 9, 45, 0, 1, 2, 3] ?_))
                    show TrC _ _ _ _ [(98, _), (19, _), (90, _), (18, _), (80, _), (79, _), (16, _), (15, _), (78, _), (77, _), (14, _), (13, _), (54, _), (53, _), (52, _), (51, _), (10, _), (9, _), (45, _), (0, _), (1, _), (2, _), (3, _)] _ _
                    first | refine tr_cond rfl (fun c98 => ?_) (fun c98 => ?_) | refine tr_condb rfl (fun c98 => ?_) (fun c98 => ?_)
                    · first | exact absurd rfl c98 | cases c98 | exact absurd c98 (by decide)
                    · skip
                      refine tr_skip (hK31 _ _ (TrC.keep [98, 19, 90, 18, 80, 79, 16, 15, 78, 77, 14, 13, 54, 53, 52, 51, 10, 9, 45, 0, 1, 2, 3] ?_))
                      show TrC _ _ _ _ [(98, _), (19, _), (90, _), (18, _), (80, _), (79, _), (16, _), (15, _), (78, _), (77, _), (14, _), (13, _), (54, _), (53, _), (52, _), (51, _), (10, _), (9, _), (45, _), (0, _), (1, _), (2, _), (3, _)] _ _
                      refine tr_seq (fun K33 hK33 => ?_)
                      -- region 20: law.go:132
                      refine tr_region ?_
                      refine tr_val (ov_move rfl rfl) rfl rfl rfl ?_
                      refine tr_val (ov_move rfl rfl) rfl rfl rfl ?_
                      refine tr_append (M := (sortT ((X.filter fun t => decide (b < t.due)).filter fun t => decide (t.due ≤ (gt (T ++ [to_]) j))))) H.get3 (vec_rd H.get0 lenThing (by decide)) rfl rfl rfl Try.underlying32 info30 rfl rfl (show Try.t30.bytes = 24 from rfl) rfl (by decide) lenThing oneThing (by omega) (by unfold maxLen; omega) rfl rfl rfl ?_
                      intro A6 c6 wA6 U
                      have H := H.upd3 U; clear U
                      refine tr_val (ov_assign rfl rfl) rfl rfl rfl ?_
                      refine tr_nil (hK33 _ _ (TrC.keep [15, 98, 90, 18, 80, 79, 16, 78, 77, 14, 13, 54, 53, 52, 51, 10, 9, 45, 0, 1, 2, 3] ?_))
                      show TrC _ _ _ _ [(15, _), (98, _), (90, _), (18, _), (80, _), (79, _), (16, _), (78, _), (77, _), (14, _), (13, _), (54, _), (53, _), (52, _), (51, _), (10, _), (9, _), (45, _), (0, _), (1, _), (2, _), (3, _)] _ _
                      -- region 21: law.go:133
                      refine tr_region ?_
                      refine tr_val (ov_move rfl rfl) rfl rfl rfl ?_
                      refine tr_val (ov_assign rfl rfl) rfl rfl rfl ?_
                      refine tr_nil (hK26 _ _ (TrC.keep [16, 15, 98, 90, 18, 80, 79, 78, 77, 14, 13, 54, 53, 52, 51, 10, 9, 45, 0, 1, 2, 3] ?_))
                      show TrC _ _ _ _ [(16, _), (15, _), (98, _), (90, _), (18, _), (80, _), (79, _), (78, _), (77, _), (14, _), (13, _), (54, _), (53, _), (52, _), (51, _), (10, _), (9, _), (45, _), (0, _), (1, _), (2, _), (3, _)] _ _
                      -- region 22: law.go:124
                      refine tr_region ?_
                      refine tr_val (ov_add rfl rfl rfl (w64 (by omega))) rfl rfl rfl ?_
                      refine tr_val (ov_move rfl rfl) rfl rfl rfl ?_
                      skip
                      exact tr_nil (hK23 (⟨j + 1, (gt (T ++ [to_]) j), (gt (T ++ [to_]) j), (M ++ (sortT ((X.filter fun t => decide (b < t.due)).filter fun t => decide (t.due ≤ (gt (T ++ [to_]) j))))), A6, c6, Lb1⟩) _ _ (⟨by omega, by omega, by omega, by omega, fun h => gt_last h, hpp, hB1, H.drop0⟩) (by first | omega | (dsimp only; omega)) (Sub.cons rfl (Sub.cons rfl (Sub.cons rfl (Sub.cons rfl (Sub.cons rfl (Sub.cons rfl (Sub.cons rfl (Sub.cons rfl (Sub.cons rfl (Sub.cons rfl (Sub.cons rfl (Sub.cons rfl (Sub.cons rfl (Sub.cons rfl (Sub.cons rfl (Sub.cons rfl (Sub.cons rfl (Sub.cons rfl Sub.nil)))))))))))))))))))
              · skip
                refine tr_exit (hK21 _ _ (TrC.keep [80, 79, 16, 15, 78, 77, 14, 13, 54, 53, 52, 51, 10, 9, 45, 0, 1, 2, 3] ?_))
                show TrC _ _ _ _ [(80, _), (79, _), (16, _), (15, _), (78, _), (77, _), (14, _), (13, _), (54, _), (53, _), (52, _), (51, _), (10, _), (9, _), (45, _), (0, _), (1, _), (2, _), (3, _)] _ _
                refine tr_seq (fun K34 hK34 => ?_)
                -- region 23: law.go:135
                have hbt := hlast (by omega)
                subst hbt
                obtain rfl : b = ta := by omega
                have hl3 := hmp.length_eq
                refine tr_region ?_
                refine tr_val (ov_move rfl rfl) rfl rfl rfl ?_
                refine tr_call (Sort_c A2 c2 M _ H.get2 (by omega)) rfl rfl rfl Try.call17 rfl rfl rfl ?_
                rintro _ w17 HC
                have H := H.top2.call1 HC
                have hsl := sortT_len M
                rw [← hsl]
                rw [sort_eq ((hids.sub List.filter_sublist).perm hmp.symm) hmp] at H ⊢
                refine tr_nil (hK34 _ _ (TrC.keep [80, 79, 16, 15, 78, 77, 14, 13, 54, 53, 52, 51, 10, 9, 45, 0, 1, 2, 3] ?_))
                show TrC _ _ _ _ [(80, _), (79, _), (16, _), (15, _), (78, _), (77, _), (14, _), (13, _), (54, _), (53, _), (52, _), (51, _), (10, _), (9, _), (45, _), (0, _), (1, _), (2, _), (3, _)] _ _
                refine tr_seq (fun K35 hK35 => ?_)
                refine tr_seq (fun K36 hK36 => ?_)
                -- region 24: law.go:136
                refine tr_region ?_
                refine tr_val (ov_move rfl rfl) rfl rfl rfl ?_
                refine tr_val (ov_neq rfl rfl rfl) rfl rfl rfl ?_
                refine tr_val (ov_move rfl rfl) rfl rfl rfl ?_
                first | refine tr_split (t := 108) rfl (fun s108 => ?_) (fun s108 => ?_) | refine tr_splitb (t := 108) rfl (fun s108 => ?_) (fun s108 => ?_)
                · first | exact absurd rfl s108 | cases s108 | exact absurd s108 (by decide)
                · skip
                  refine tr_val (ov_move rfl rfl) rfl rfl rfl ?_
                  refine tr_val (ov_len rfl rfl Try.underlying32 rfl) rfl rfl rfl ?_
                  refine tr_val (ov_move rfl rfl) rfl rfl rfl ?_
                  refine tr_val (ov_len rfl rfl Try.underlying32 rfl) rfl rfl rfl ?_
                  refine tr_val (ov_neq rfl rfl rfl) rfl rfl rfl ?_
                  refine tr_val (ov_pick_f (va := undef) rfl rfl rfl rfl) rfl rfl rfl ?_
                  refine tr_nil (hK36 _ _ (TrC.keep [114, 80, 79, 16, 15, 78, 77, 14, 13, 54, 53, 52, 51, 10, 9, 45, 0, 1, 2, 3] ?_))
                  show TrC _ _ _ _ [(114, _), (80, _), (79, _), (16, _), (15, _), (78, _), (77, _), (14, _), (13, _), (54, _), (53, _), (52, _), (51, _), (10, _), (9, _), (45, _), (0, _), (1, _), (2, _), (3, _)] _ _
                  first | refine tr_cond rfl (fun c114 => ?_) (fun c114 => ?_) | refine tr_condb rfl (fun c114 => ?_) (fun c114 => ?_)
                  · exact absurd rfl c114
                  · skip
                    refine tr_skip (hK35 _ _ (TrC.keep [114, 80, 79, 16, 15, 78, 77, 14, 13, 54, 53, 52, 51, 10, 9, 45, 0, 1, 2, 3] ?_))
                    show TrC _ _ _ _ [(114, _), (80, _), (79, _), (16, _), (15, _), (78, _), (77, _), (14, _), (13, _), (54, _), (53, _), (52, _), (51, _), (10, _), (9, _), (45, _), (0, _), (1, _), (2, _), (3, _)] _ _
                    refine tr_seq (fun K37 hK37 => ?_)
                    refine tr_seq (fun K38 hK38 => ?_)
                    -- region 26: law.go:139
                    have hq1 := sortT_len (X.filter fun t => decide (t.due ≤ b))
                    refine tr_region ?_
                    refine tr_val (ov_move rfl rfl) rfl rfl rfl ?_
                    refine tr_val (ov_len rfl rfl Try.underlying32 rfl) rfl rfl rfl ?_
                    refine tr_val (ov_move rfl rfl) rfl rfl rfl ?_
                    refine tr_nil (hK38 _ _ (TrC.keep [117, 116, 114, 80, 79, 16, 15, 78, 77, 14, 13, 54, 53, 52, 51, 10, 9, 45, 0, 1, 2, 3] ?_))
                    show TrC _ _ _ _ [(117, _), (116, _), (114, _), (80, _), (79, _), (16, _), (15, _), (78, _), (77, _), (14, _), (13, _), (54, _), (53, _), (52, _), (51, _), (10, _), (9, _), (45, _), (0, _), (1, _), (2, _), (3, _)] _ _
                    refine tr_block ?_
                    refine tr_loop_ (X := Int) [116, 114, 80, 79, 16, 15, 78, 77, 14, 13, 54, 53, 52, 51, 10, 9, 45, 0, 1, 2, 3] (fun i => [(117, .int .i64 i)]) (fun i w' => 0 ≤ i ∧ i ≤ (sortT (X.filter fun t => decide (t.due ≤ b))).length ∧ SH w noBlocks [vec A2 c2 30 3 encThing (sortT (X.filter fun t => decide (t.due ≤ b))), pack Lb, vec A3 c3 2 1 encI64 (T ++ [b]), vec A1 c1 30 3 encThing (sortT (X.filter fun t => decide (t.due ≤ b))), pack La1] w') (fun i => ((sortT (X.filter fun t => decide (t.due ≤ b))).length - i).toNat) (0) (Sub.cons rfl (Sub.cons rfl (Sub.cons rfl (Sub.cons rfl (Sub.cons rfl (Sub.cons rfl (Sub.cons rfl (Sub.cons rfl (Sub.cons rfl (Sub.cons rfl (Sub.cons rfl (Sub.cons rfl (Sub.cons rfl (Sub.cons rfl (Sub.cons rfl (Sub.cons rfl (Sub.cons rfl (Sub.cons rfl (Sub.cons rfl (Sub.cons rfl (Sub.cons rfl (Sub.cons rfl Sub.nil)))))))))))))))))))))) (⟨by omega, by omega, H⟩) ?_
                    rintro i w18 ⟨hi0, hi1, H⟩ K39 hK39
                    show TrC _ _ _ _ [(117, _), (116, _), (114, _), (80, _), (79, _), (16, _), (15, _), (78, _), (77, _), (14, _), (13, _), (54, _), (53, _), (52, _), (51, _), (10, _), (9, _), (45, _), (0, _), (1, _), (2, _), (3, _)] _ _
                    refine tr_seq (fun K40 hK40 => ?_)
                    -- region 27: law.go:139
                    refine tr_region ?_
                    refine tr_val (ov_lss rfl rfl rfl) rfl rfl rfl ?_
                    refine tr_nil (hK40 _ _ (TrC.keep [118, 117, 116, 114, 80, 79, 16, 15, 78, 77, 14, 13, 54, 53, 52, 51, 10, 9, 45, 0, 1, 2, 3] ?_))
                    show TrC _ _ _ _ [(118, _), (117, _), (116, _), (114, _), (80, _), (79, _), (16, _), (15, _), (78, _), (77, _), (14, _), (13, _), (54, _), (53, _), (52, _), (51, _), (10, _), (9, _), (45, _), (0, _), (1, _), (2, _), (3, _)] _ _
                    refine tr_seq (fun K41 hK41 => ?_)
                    first | refine tr_cond rfl (fun c118 => ?_) (fun c118 => ?_) | refine tr_condb rfl (fun c118 => ?_) (fun c118 => ?_)
                    · skip
                      refine tr_skip (hK41 _ _ (TrC.keep [118, 117, 116, 114, 80, 79, 16, 15, 78, 77, 14, 13, 54, 53, 52, 51, 10, 9, 45, 0, 1, 2, 3] ?_))
                      show TrC _ _ _ _ [(118, _), (117, _), (116, _), (114, _), (80, _), (79, _), (16, _), (15, _), (78, _), (77, _), (14, _), (13, _), (54, _), (53, _), (52, _), (51, _), (10, _), (9, _), (45, _), (0, _), (1, _), (2, _), (3, _)] _ _
                      refine tr_seq (fun K42 hK42 => ?_)
                      refine tr_block ?_
                      refine tr_seq (fun K43 hK43 => ?_)
                      -- region 28: law.go:139
                      refine tr_region ?_
                      refine tr_val (ov_move rfl rfl) rfl rfl rfl ?_
                      refine tr_val (ov_assign rfl rfl) rfl rfl rfl ?_
                      refine tr_nil (hK43 _ _ (TrC.keep [21, 118, 117, 116, 114, 80, 79, 16, 15, 78, 77, 14, 13, 54, 53, 52, 51, 10, 9, 45, 0, 1, 2, 3] ?_))
                      show TrC _ _ _ _ [(21, _), (118, _), (117, _), (116, _), (114, _), (80, _), (79, _), (16, _), (15, _), (78, _), (77, _), (14, _), (13, _), (54, _), (53, _), (52, _), (51, _), (10, _), (9, _), (45, _), (0, _), (1, _), (2, _), (3, _)] _ _
                      refine tr_seq (fun K44 hK44 => ?_)
                      -- region 29: law.go:140
                      refine tr_quiet mixed (by kernel_rfl) H ?_
                      refine tq_val (fun _ H => ov_move rfl rfl) rfl rfl rfl ?_
                      refine tq_val (fun _ H => ov_move rfl rfl) rfl rfl rfl ?_
                      refine tq_val (fun _ H => ov_indexAddrR (vec_rd H.get3 lenThing (by decide)) rfl Try.underlying32 (Try.sizeOf30 _) rfl rfl (by omega) (by omega)) rfl rfl rfl ?_
                      refine tq_val (fun _ H => ld_Thing (vec_rd H.get3 lenThing (by decide)) rfl (Try.isAgg30 _) (Try.sizeOf30 _) rfl (by omega) (by omega)) rfl rfl rfl ?_
                      refine tq_val (fun _ H => ov_move rfl rfl) rfl rfl rfl ?_
                      refine tq_val (fun _ H => ov_move rfl rfl) rfl rfl rfl ?_
                      refine tq_val (fun _ H => ov_indexAddrR (vec_rd H.get0 lenThing (by decide)) rfl Try.underlying32 (Try.sizeOf30 _) rfl rfl (by omega) (by omega)) rfl rfl rfl ?_
                      refine tq_val (fun _ H => ld_Thing (vec_rd H.get0 lenThing (by decide)) rfl (Try.isAgg30 _) (Try.sizeOf30 _) rfl (by omega) (by omega)) rfl rfl rfl ?_
                      refine tq_val (fun _ H => ov_neTh rfl rfl rfl) rfl rfl rfl ?_
                      refine tq_nil ?_
                      intro w19 H
                      refine hK44 _ _ (TrC.keep [128, 118, 117, 116, 114, 80, 79, 16, 15, 78, 77, 14, 13, 54, 53, 52, 51, 10, 9, 45, 0, 1, 2, 3] ?_)
                      show TrC _ _ _ _ [(128, _), (118, _), (117, _), (116, _), (114, _), (80, _), (79, _), (16, _), (15, _), (78, _), (77, _), (14, _), (13, _), (54, _), (53, _), (52, _), (51, _), (10, _), (9, _), (45, _), (0, _), (1, _), (2, _), (3, _)] _ _
                      first | refine tr_cond rfl (fun c128 => ?_) (fun c128 => ?_) | refine tr_condb rfl (fun c128 => ?_) (fun c128 => ?_)
                      · exact absurd rfl c128
                      · skip
                        refine tr_skip (hK42 _ _ (TrC.keep [128, 118, 117, 116, 114, 80, 79, 16, 15, 78, 77, 14, 13, 54, 53, 52, 51, 10, 9, 45, 0, 1, 2, 3] ?_))
                        show TrC _ _ _ _ [(128, _), (118, _), (117, _), (116, _), (114, _), (80, _), (79, _), (16, _), (15, _), (78, _), (77, _), (14, _), (13, _), (54, _), (53, _), (52, _), (51, _), (10, _), (9, _), (45, _), (0, _), (1, _), (2, _), (3, _)] _ _
                        -- region 31: law.go:139
                        refine tr_region ?_
                        refine tr_val (ov_add rfl rfl rfl (w64 (by omega))) rfl rfl rfl ?_
                        refine tr_val (ov_move rfl rfl) rfl rfl rfl ?_
                        skip
                        exact tr_nil (hK39 (i + 1) _ _ (⟨by omega, by omega, H⟩) (by first | omega | (dsimp only; omega)) (Sub.cons rfl (Sub.cons rfl (Sub.cons rfl (Sub.cons rfl (Sub.cons rfl (Sub.cons rfl (Sub.cons rfl (Sub.cons rfl (Sub.cons rfl (Sub.cons rfl (Sub.cons rfl (Sub.cons rfl (Sub.cons rfl (Sub.cons rfl (Sub.cons rfl (Sub.cons rfl (Sub.cons rfl (Sub.cons rfl (Sub.cons rfl (Sub.cons rfl (Sub.cons rfl (Sub.cons rfl Sub.nil)))))))))))))))))))))))
                    · skip
                      refine tr_exit (hK37 _ _ (TrC.keep [118, 117, 116, 114, 80, 79, 16, 15, 78, 77, 14, 13, 54, 53, 52, 51, 10, 9, 45, 0, 1, 2, 3] ?_))
                      show TrC _ _ _ _ [(118, _), (117, _), (116, _), (114, _), (80, _), (79, _), (16, _), (15, _), (78, _), (77, _), (14, _), (13, _), (54, _), (53, _), (52, _), (51, _), (10, _), (9, _), (45, _), (0, _), (1, _), (2, _), (3, _)] _ _
                      refine tr_seq (fun K45 hK45 => ?_)
                      -- region 32: law.go:144
                      refine tr_region ?_
                      refine tr_val (ov_move rfl rfl) rfl rfl rfl ?_
                      refine tr_call (wAll_c d1 b (X.filter fun t => decide (b < t.due)) La1 _ hA1 H.get4) rfl rfl rfl Try.call18 rfl rfl rfl ?_
                      rintro _ w20 ⟨A7, c7, rfl, HC⟩
                      have H := H.call0r HC
                      refine tr_val (ov_move rfl rfl) rfl rfl rfl ?_
                      refine tr_call (wAll_c d2 b (X.filter fun t => decide (b < t.due)) Lb _ hB H.get2) rfl rfl rfl Try.call18 rfl rfl rfl ?_
                      rintro _ w21 ⟨A8, c8, rfl, HC⟩
                      have H := H.call0r HC
                      refine tr_val (ov_assign rfl rfl) rfl rfl rfl ?_
                      refine tr_val (ov_assign rfl rfl) rfl rfl rfl ?_
                      refine tr_nil (hK45 _ _ (TrC.keep [23, 22, 118, 117, 116, 114, 80, 79, 16, 15, 78, 77, 14, 13, 54, 53, 52, 51, 10, 9, 45, 0, 1, 2, 3] ?_))
                      show TrC _ _ _ _ [(23, _), (22, _), (118, _), (117, _), (116, _), (114, _), (80, _), (79, _), (16, _), (15, _), (78, _), (77, _), (14, _), (13, _), (54, _), (53, _), (52, _), (51, _), (10, _), (9, _), (45, _), (0, _), (1, _), (2, _), (3, _)] _ _
                      refine tr_seq (fun K46 hK46 => ?_)
                      refine tr_seq (fun K47 hK47 => ?_)
                      -- region 33: law.go:145
                      have hq2 := sortT_len (X.filter fun t => decide (b < t.due))
                      have hq3 := List.length_filter_le (fun t : Thing => decide (b < t.due)) X
                      refine tr_region ?_
                      refine tr_val (ov_move rfl rfl) rfl rfl rfl ?_
                      refine tr_val (ov_len rfl rfl Try.underlying32 rfl) rfl rfl rfl ?_
                      refine tr_val (ov_move rfl rfl) rfl rfl rfl ?_
                      refine tr_nil (hK47 _ _ (TrC.keep [136, 135, 23, 22, 118, 117, 116, 114, 80, 79, 16, 15, 78, 77, 14, 13, 54, 53, 52, 51, 10, 9, 45, 0, 1, 2, 3] ?_))
                      show TrC _ _ _ _ [(136, _), (135, _), (23, _), (22, _), (118, _), (117, _), (116, _), (114, _), (80, _), (79, _), (16, _), (15, _), (78, _), (77, _), (14, _), (13, _), (54, _), (53, _), (52, _), (51, _), (10, _), (9, _), (45, _), (0, _), (1, _), (2, _), (3, _)] _ _
                      refine tr_block ?_
                      refine tr_loop_ (X := Int) [135, 23, 22, 118, 117, 116, 114, 80, 79, 16, 15, 78, 77, 14, 13, 54, 53, 52, 51, 10, 9, 45, 0, 1, 2, 3] (fun i => [(136, .int .i64 i)]) (fun i w' => 0 ≤ i ∧ i ≤ (sortT (X.filter fun t => decide (b < t.due))).length ∧ SH w noBlocks [vec A8 c8 30 3 encThing (sortT (X.filter fun t => decide (b < t.due))), vec A7 c7 30 3 encThing (sortT (X.filter fun t => decide (b < t.due))), vec A2 c2 30 3 encThing (sortT (X.filter fun t => decide (t.due ≤ b))), pack Lb, vec A3 c3 2 1 encI64 (T ++ [b]), vec A1 c1 30 3 encThing (sortT (X.filter fun t => decide (t.due ≤ b))), pack La1] w') (fun i => ((sortT (X.filter fun t => decide (b < t.due))).length - i).toNat) (0) (Sub.cons rfl (Sub.cons rfl (Sub.cons rfl (Sub.cons rfl (Sub.cons rfl (Sub.cons rfl (Sub.cons rfl (Sub.cons rfl (Sub.cons rfl (Sub.cons rfl (Sub.cons rfl (Sub.cons rfl (Sub.cons rfl (Sub.cons rfl (Sub.cons rfl (Sub.cons rfl (Sub.cons rfl (Sub.cons rfl (Sub.cons rfl (Sub.cons rfl (Sub.cons rfl (Sub.cons rfl (Sub.cons rfl (Sub.cons rfl (Sub.cons rfl (Sub.cons rfl (Sub.cons rfl Sub.nil))))))))))))))))))))))))))) (⟨by omega, by omega, H⟩) ?_
                      rintro i w22 ⟨hi0, hi1, H⟩ K48 hK48
                      show TrC _ _ _ _ [(136, _), (135, _), (23, _), (22, _), (118, _), (117, _), (116, _), (114, _), (80, _), (79, _), (16, _), (15, _), (78, _), (77, _), (14, _), (13, _), (54, _), (53, _), (52, _), (51, _), (10, _), (9, _), (45, _), (0, _), (1, _), (2, _), (3, _)] _ _
                      refine tr_seq (fun K49 hK49 => ?_)
                      -- region 34: law.go:145
                      refine tr_region ?_
                      refine tr_val (ov_lss rfl rfl rfl) rfl rfl rfl ?_
                      refine tr_nil (hK49 _ _ (TrC.keep [137, 136, 135, 23, 22, 118, 117, 116, 114, 80, 79, 16, 15, 78, 77, 14, 13, 54, 53, 52, 51, 10, 9, 45, 0, 1, 2, 3] ?_))
                      show TrC _ _ _ _ [(137, _), (136, _), (135, _), (23, _), (22, _), (118, _), (117, _), (116, _), (114, _), (80, _), (79, _), (16, _), (15, _), (78, _), (77, _), (14, _), (13, _), (54, _), (53, _), (52, _), (51, _), (10, _), (9, _), (45, _), (0, _), (1, _), (2, _), (3, _)] _ _
                      refine tr_seq (fun K50 hK50 => ?_)
                      first | refine tr_cond rfl (fun c137 => ?_) (fun c137 => ?_) | refine tr_condb rfl (fun c137 => ?_) (fun c137 => ?_)
                      · skip
                        refine tr_skip (hK50 _ _ (TrC.keep [137, 136, 135, 23, 22, 118, 117, 116, 114, 80, 79, 16, 15, 78, 77, 14, 13, 54, 53, 52, 51, 10, 9, 45, 0, 1, 2, 3] ?_))
                        show TrC _ _ _ _ [(137, _), (136, _), (135, _), (23, _), (22, _), (118, _), (117, _), (116, _), (114, _), (80, _), (79, _), (16, _), (15, _), (78, _), (77, _), (14, _), (13, _), (54, _), (53, _), (52, _), (51, _), (10, _), (9, _), (45, _), (0, _), (1, _), (2, _), (3, _)] _ _
                        refine tr_seq (fun K51 hK51 => ?_)
                        refine tr_block ?_
                        refine tr_seq (fun K52 hK52 => ?_)
                        -- region 35: law.go:145
                        refine tr_region ?_
                        refine tr_val (ov_move rfl rfl) rfl rfl rfl ?_
                        refine tr_val (ov_assign rfl rfl) rfl rfl rfl ?_
                        refine tr_nil (hK52 _ _ (TrC.keep [24, 137, 136, 135, 23, 22, 118, 117, 116, 114, 80, 79, 16, 15, 78, 77, 14, 13, 54, 53, 52, 51, 10, 9, 45, 0, 1, 2, 3] ?_))
                        show TrC _ _ _ _ [(24, _), (137, _), (136, _), (135, _), (23, _), (22, _), (118, _), (117, _), (116, _), (114, _), (80, _), (79, _), (16, _), (15, _), (78, _), (77, _), (14, _), (13, _), (54, _), (53, _), (52, _), (51, _), (10, _), (9, _), (45, _), (0, _), (1, _), (2, _), (3, _)] _ _
                        refine tr_seq (fun K53 hK53 => ?_)
                        -- region 36: law.go:146
                        refine tr_quiet mixed (by kernel_rfl) H ?_
                        refine tq_val (fun _ H => ov_move rfl rfl) rfl rfl rfl ?_
                        refine tq_val (fun _ H => ov_move rfl rfl) rfl rfl rfl ?_
                        refine tq_val (fun _ H => ov_len rfl rfl Try.underlying32 rfl) rfl rfl rfl ?_
                        refine tq_val (fun _ H => ov_geq rfl rfl rfl) rfl rfl rfl ?_
                        refine tq_val (fun _ H => ov_move rfl rfl) rfl rfl rfl ?_
                        first | refine tq_split (t := 143) rfl (fun s143 => ?_) (fun s143 => ?_) | refine tq_splitb (t := 143) rfl (fun s143 => ?_) (fun s143 => ?_)
                        · exfalso; omega
                        · skip
                          refine tq_val (fun _ H => ov_move rfl rfl) rfl rfl rfl ?_
                          refine tq_val (fun _ H => ov_move rfl rfl) rfl rfl rfl ?_
                          refine tq_val (fun _ H => ov_indexAddrR (vec_rd H.get1 lenThing (by decide)) rfl Try.underlying32 (Try.sizeOf30 _) rfl rfl (by omega) (by omega)) rfl rfl rfl ?_
                          refine tq_val (fun _ H => ld_Thing (vec_rd H.get1 lenThing (by decide)) rfl (Try.isAgg30 _) (Try.sizeOf30 _) rfl (by omega) (by omega)) rfl rfl rfl ?_
                          refine tq_val (fun _ H => ov_move rfl rfl) rfl rfl rfl ?_
                          refine tq_val (fun _ H => ov_move rfl rfl) rfl rfl rfl ?_
                          refine tq_val (fun _ H => ov_indexAddrR (vec_rd H.get0 lenThing (by decide)) rfl Try.underlying32 (Try.sizeOf30 _) rfl rfl (by omega) (by omega)) rfl rfl rfl ?_
                          refine tq_val (fun _ H => ld_Thing (vec_rd H.get0 lenThing (by decide)) rfl (Try.isAgg30 _) (Try.sizeOf30 _) rfl (by omega) (by omega)) rfl rfl rfl ?_
                          refine tq_val (fun _ H => ov_neTh rfl rfl rfl) rfl rfl rfl ?_
                          refine tq_val (fun _ H => ov_pick_f (va := undef) rfl rfl rfl rfl) rfl rfl rfl ?_
                          refine tq_nil ?_
                          intro w23 H
                          refine hK53 _ _ (TrC.keep [153, 137, 136, 135, 23, 22, 118, 117, 116, 114, 80, 79, 16, 15, 78, 77, 14, 13, 54, 53, 52, 51, 10, 9, 45, 0, 1, 2, 3] ?_)
                          show TrC _ _ _ _ [(153, _), (137, _), (136, _), (135, _), (23, _), (22, _), (118, _), (117, _), (116, _), (114, _), (80, _), (79, _), (16, _), (15, _), (78, _), (77, _), (14, _), (13, _), (54, _), (53, _), (52, _), (51, _), (10, _), (9, _), (45, _), (0, _), (1, _), (2, _), (3, _)] _ _
                          first | refine tr_cond rfl (fun c153 => ?_) (fun c153 => ?_) | refine tr_condb rfl (fun c153 => ?_) (fun c153 => ?_)
                          · exact absurd rfl c153
                          · skip
                            refine tr_skip (hK51 _ _ (TrC.keep [153, 137, 136, 135, 23, 22, 118, 117, 116, 114, 80, 79, 16, 15, 78, 77, 14, 13, 54, 53, 52, 51, 10, 9, 45, 0, 1, 2, 3] ?_))
                            show TrC _ _ _ _ [(153, _), (137, _), (136, _), (135, _), (23, _), (22, _), (118, _), (117, _), (116, _), (114, _), (80, _), (79, _), (16, _), (15, _), (78, _), (77, _), (14, _), (13, _), (54, _), (53, _), (52, _), (51, _), (10, _), (9, _), (45, _), (0, _), (1, _), (2, _), (3, _)] _ _
                            -- region 38: law.go:145
                            refine tr_region ?_
                            refine tr_val (ov_add rfl rfl rfl (w64 (by omega))) rfl rfl rfl ?_
                            refine tr_val (ov_move rfl rfl) rfl rfl rfl ?_
                            skip
                            exact tr_nil (hK48 (i + 1) _ _ (⟨by omega, by omega, H⟩) (by first | omega | (dsimp only; omega)) (Sub.cons rfl (Sub.cons rfl (Sub.cons rfl (Sub.cons rfl (Sub.cons rfl (Sub.cons rfl (Sub.cons rfl (Sub.cons rfl (Sub.cons rfl (Sub.cons rfl (Sub.cons rfl (Sub.cons rfl (Sub.cons rfl (Sub.cons rfl (Sub.cons rfl (Sub.cons rfl (Sub.cons rfl (Sub.cons rfl (Sub.cons rfl (Sub.cons rfl (Sub.cons rfl (Sub.cons rfl (Sub.cons rfl (Sub.cons rfl (Sub.cons rfl (Sub.cons rfl (Sub.cons rfl Sub.nil))))))))))))))))))))))))))))
                      · skip
                        refine tr_exit (hK46 _ _ (TrC.keep [137, 136, 135, 23, 22, 118, 117, 116, 114, 80, 79, 16, 15, 78, 77, 14, 13, 54, 53, 52, 51, 10, 9, 45, 0, 1, 2, 3] ?_))
                        show TrC _ _ _ _ [(137, _), (136, _), (135, _), (23, _), (22, _), (118, _), (117, _), (116, _), (114, _), (80, _), (79, _), (16, _), (15, _), (78, _), (77, _), (14, _), (13, _), (54, _), (53, _), (52, _), (51, _), (10, _), (9, _), (45, _), (0, _), (1, _), (2, _), (3, _)] _ _
                        refine tr_seq (fun K54 hK54 => ?_)
                        -- region 39: law.go:150
                        refine tr_region ?_
                        refine tr_val (ov_move rfl rfl) rfl rfl rfl ?_
                        refine tr_val (ov_len rfl rfl Try.underlying32 rfl) rfl rfl rfl ?_
                        refine tr_val (ov_move rfl rfl) rfl rfl rfl ?_
                        refine tr_val (ov_len rfl rfl Try.underlying32 rfl) rfl rfl rfl ?_
                        refine tr_val (ov_eql rfl rfl rfl) rfl rfl rfl ?_
                        refine tr_val (ov_move rfl rfl) rfl rfl rfl ?_
                        first | refine tr_split (t := 160) rfl (fun s160 => ?_) (fun s160 => ?_) | refine tr_splitb (t := 160) rfl (fun s160 => ?_) (fun s160 => ?_)
                        · skip
                          refine tr_val (ov_move rfl rfl) rfl rfl rfl ?_
                          refine tr_call (wSpread_c d1 b (X.filter fun t => decide (b < t.due)) La1 _ hA1 H.get6) rfl rfl rfl Try.call19 rfl rfl rfl ?_
                          rintro _ w24 ⟨rfl, HC⟩
                          have H := H.call0n HC
                          refine tr_val (ov_move rfl rfl) rfl rfl rfl ?_
                          refine tr_call (wSpread_c d2 b (X.filter fun t => decide (b < t.due)) Lb _ hB H.get3) rfl rfl rfl Try.call19 rfl rfl rfl ?_
                          rintro _ w25 ⟨rfl, HC⟩
                          have H := H.call0n HC
                          refine tr_val (ov_eqlA5 rfl rfl rfl rfl rfl) rfl rfl rfl ?_
                          refine tr_val (ov_pick (vb := undef) rfl rfl rfl rfl) rfl rfl rfl ?_
                          refine tr_val (ov_move rfl rfl) rfl rfl rfl ?_
                          first | refine tr_split (t := 167) rfl (fun s167 => ?_) (fun s167 => ?_) | refine tr_splitb (t := 167) rfl (fun s167 => ?_) (fun s167 => ?_)
                          · skip
                            refine tr_call (lives12_c _) rfl rfl rfl Try.call13 rfl rfl rfl ?_
                            rintro _ w26 ⟨rfl, HC⟩
                            have H := H.call0n HC
                            refine tr_val (ov_pick (vb := undef) rfl rfl rfl rfl) rfl rfl rfl ?_
                            refine tr_val (ov_assign rfl rfl) rfl rfl rfl ?_
                            refine tr_nil (hK54 _ _ (TrC.keep [8, 137, 136, 135, 23, 22, 118, 117, 116, 114, 80, 79, 16, 15, 78, 77, 14, 13, 54, 53, 52, 51, 10, 9, 45, 0, 1, 2, 3] ?_))
                            show TrC _ _ _ _ [(8, _), (137, _), (136, _), (135, _), (23, _), (22, _), (118, _), (117, _), (116, _), (114, _), (80, _), (79, _), (16, _), (15, _), (78, _), (77, _), (14, _), (13, _), (54, _), (53, _), (52, _), (51, _), (10, _), (9, _), (45, _), (0, _), (1, _), (2, _), (3, _)] _ _
                            refine tr_ret (post_ret1 (.inr rfl) rfl rfl ?_)
                            first | exact ⟨rfl, H⟩ | exact ⟨rfl, H.drop0.drop0.drop0.drop0.drop0.drop0.drop0⟩
                          · first | exact absurd rfl s167 | cases s167 | exact absurd s167 (by decide)
                        · first | exact absurd rfl s160 | cases s160 | exact absurd s160 (by decide)

end Go.Proofs.Ytblipnjjgbggiaa
