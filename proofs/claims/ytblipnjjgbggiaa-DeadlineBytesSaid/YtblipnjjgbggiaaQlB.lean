/- Contracts of wheel.Wheel: Read, both ways. Conditions: none. -/
import Derived.Test.YtblipnjjgbggiaaQrd
namespace Go.Proofs.Ytblipnjjgbggiaa
open Go Go.RowKit
set_option linter.unusedVariables false
set_option linter.unusedSimpArgs false

/-! curfew/deadline.Read -/
set_option maxRecDepth 20000 in
theorem qRead_c (r : Nat) (A1 : Option Addr) (c : Nat) (L : List Int) (bad : Bool) (w : World) (hA : ∀ (rs : List Res) (w' : World), SH w (blk r 152 [.slice A1 (L).length c, .bool bad]).foot rs w' → Rd w' A1 1 (L.map encU8)) (hc : L.length ≤ c) (hB : Bytes L) (hl : L.length ≤ 65536) (hO : (blk r 152 [.slice A1 (L).length c, .bool bad]).holds w) : Does Try.prog 45 #[.pointer (some ⟨r, 0, none⟩)] w (fun v w' => ∃ Aq cq A' c', v = .tuple #[.agg #[.int .i64 (oNow ((L, bad) : RS)), .int .u64 (oLast ((L, bad) : RS)), .slice Aq (oX ((L, bad) : RS)).length cq], .bool (rdOk ((L, bad) : RS))] ∧ SubR A1 L A' (oS ((L, bad) : RS)).1 ∧ (oS ((L, bad) : RS)).1.length ≤ c' ∧ SH w (blk r 152 [.slice A1 (L).length c, .bool bad]).foot [vec Aq cq 30 3 encThing (oX ((L, bad) : RS)), blk r 152 [.slice A' (oS ((L, bad) : RS)).1.length c', .bool (oS ((L, bad) : RS)).2]] w') := by
  refine does_enter1 Try.func45 rfl Try.ntmps45 rfl ?_
  have H := SH.own1 hO
  have gg : GoodS 65536 (L, bad) := ⟨hB, hl⟩
  have hs0 := SubR.refl A1 L
  have hn := vN_rng (most := 256) ((gg.sI).sN (most := MXI)) (by decide)
  have hla := vN_rng (most := MXI) gg.sI (by decide)
  refine tr_seq (fun K1 hK1 => ?_)
  -- region 0: deadline.go:155
  refine tr_region ?_
  refine tr_alloc H rfl (Try.zeroValue78 _) rfl rfl rfl rfl ?_
  intro b1 w1 hb1 H
  refine tr_val (ov_assign rfl rfl) rfl rfl rfl ?_
  refine tr_nil (hK1 _ _ (TrC.keep [3, 2, 0] ?_))
  show TrC _ _ _ _ [(3, _), (2, _), (0, _)] _ _
  refine tr_seq (fun K2 hK2 => ?_)
  -- region 1: deadline.go:156
  refine tr_region ?_
  refine tr_alloc H rfl (Try.zeroValue78 _) rfl rfl rfl rfl ?_
  intro b2 w2 hb2 H
  refine tr_nil (hK2 _ _ (TrC.keep [4, 3, 2, 0] ?_))
  show TrC _ _ _ _ [(4, _), (3, _), (2, _), (0, _)] _ _
  refine tr_seq (fun K3 hK3 => ?_)
  -- region 2: deadline.go:157
  refine tr_region ?_
  refine tr_val (ov_move rfl rfl) rfl rfl rfl ?_
  refine tr_call (qInt_c r A1 c ((L, bad) : RS).1 ((L, bad) : RS).2 _ (fun _ _ C => hs0 _ (hA _ _ (H.top2.call1e C))) hc gg.1 (by have := gg.2; omega) H.get2) rfl rfl rfl Try.call83 rfl rfl rfl ?_
  rintro _ w3 ⟨A2, c2, rfl, hs1, hc2, HC⟩
  have H := H.top2.call1 HC
  have hs1 := hs0.trans hs1
  refine tr_val (ov_move rfl rfl) rfl rfl rfl ?_
  refine tr_call (qNum_c r A2 c2 (sI ((L, bad) : RS)).1 (sI ((L, bad) : RS)).2 _ (fun _ _ C => hs1 _ (hA _ _ (H.call1e C))) hc2 gg.sI.1 (by have := gg.sI.2; omega) H.get0 MXI) rfl rfl rfl Try.call84 rfl rfl rfl ?_
  rintro _ w4 ⟨A3, c3, rfl, hs2, hc3, HC⟩
  have H := H.call1 HC
  have hs2 := hs1.trans hs2
  refine tr_val (ov_fieldAddr rfl Try.underlying78 rfl (Try.sizeOf2 _) (by decide) rfl) rfl rfl rfl ?_
  (refine tr_store H.get1 rfl (Try.sizeOf2 _) rfl rfl rfl rfl rfl rfl rfl ?_; intro w5 U; have H := H.upd1 U; clear U)
  try simp only [List.set_cons_zero, List.set_cons_succ, Nat.zero_add] at H
  refine tr_val (ov_fieldAddr rfl Try.underlying78 rfl (Try.sizeOf28 _) (by decide) rfl) rfl rfl rfl ?_
  (refine tr_store H.get1 rfl (Try.sizeOf28 _) rfl rfl rfl rfl rfl rfl rfl ?_; intro w6 U; have H := H.upd1 U; clear U)
  try simp only [List.set_cons_zero, List.set_cons_succ, Nat.zero_add] at H
  refine tr_nil (hK3 _ _ (TrC.keep [4, 3, 2, 0] ?_))
  show TrC _ _ _ _ [(4, _), (3, _), (2, _), (0, _)] _ _
  refine tr_seq (fun K4 hK4 => ?_)
  refine tr_seq (fun K5 hK5 => ?_)
  -- region 3: deadline.go:158
  refine tr_region ?_
  refine tr_val (ov_move rfl rfl) rfl rfl rfl ?_
  refine tr_call (qNum_c r A3 c3 (sN MXI (sI ((L, bad) : RS))).1 (sN MXI (sI ((L, bad) : RS))).2 _ (fun _ _ C => hs2 _ (hA _ _ (H.call1e C))) hc3 (gg.sI.sN (most := MXI)).1 (by have := (gg.sI.sN (most := MXI)).2; omega) H.get0 256) rfl rfl rfl Try.call84 rfl rfl rfl ?_
  rintro _ w7 ⟨A4, c4, rfl, hs3, hc4, HC⟩
  have H := H.call1 HC
  have hs3 := hs2.trans hs3
  have H := H.addNil 30 3 encThing
  change 0 ≤ (rdK ((L, bad) : RS)) ∧ (rdK ((L, bad) : RS)) ≤ 256 at hn
  have hnv : nVal (pNum false 256 (sN MXI (sI ((L, bad) : RS))).1) = (rdK ((L, bad) : RS)) := rfl
  refine tr_val (ov_move rfl rfl) rfl rfl rfl ?_
  refine tr_nil (hK5 _ _ (TrC.keep [15, 14, 4, 3, 2, 0] ?_))
  show TrC _ _ _ _ [(15, _), (14, _), (4, _), (3, _), (2, _), (0, _)] _ _
  refine tr_block ?_
  refine tr_loop_ (X := Int × Option Addr × Nat × Option Addr × Nat) [14, 4, 3, 2, 0] (fun ⟨k, Aq, cq, A5, c5⟩ => [(15, .int .u64 k)]) (fun ⟨k, Aq, cq, A5, c5⟩ w' => 0 ≤ k ∧ k ≤ (rdK ((L, bad) : RS)) ∧ SubR A1 L A5 (rdT (s3 ((L, bad) : RS)) k.toNat).2.1 ∧ (rdT (s3 ((L, bad) : RS)) k.toNat).2.1.length ≤ c5 ∧ SH w (blk r 152 [.slice A1 (L).length c, .bool bad]).foot [vec Aq cq 30 3 encThing (rdT (s3 ((L, bad) : RS)) k.toNat).1, blk r 152 [.slice A5 ((rdT (s3 ((L, bad) : RS)) k.toNat).2).1.length c5, .bool ((rdT (s3 ((L, bad) : RS)) k.toNat).2).2], blk b2 78 [.int .i64 (vI ((L, bad) : RS)), .int .u64 (vN MXI (sI ((L, bad) : RS))), .slice Aq ((rdT (s3 ((L, bad) : RS)) k.toNat).1).length cq], blk b1 78 [.int .i64 0, .int .u64 0, .slice none 0 0]] w') (fun ⟨k, Aq, cq, A5, c5⟩ => ((rdK ((L, bad) : RS)) - k).toNat) (⟨0, none, 0, A4, c4⟩) (Sub.cons rfl (Sub.cons rfl (Sub.cons rfl (Sub.cons rfl (Sub.cons rfl (Sub.cons rfl Sub.nil)))))) (⟨by omega, by omega, hs3, hc4, H⟩) ?_
  rintro ⟨k, Aq, cq, A5, c5⟩ w8 ⟨hk0, hk1, hs4, hc5, H⟩ K6 hK6
  show TrC _ _ _ _ [(15, _), (14, _), (4, _), (3, _), (2, _), (0, _)] _ _
  refine tr_seq (fun K7 hK7 => ?_)
  -- region 4: deadline.go:158
  refine tr_region ?_
  refine tr_val (ov_lss rfl rfl rfl) rfl rfl rfl ?_
  refine tr_nil (hK7 _ _ (TrC.keep [16, 15, 14, 4, 3, 2, 0] ?_))
  show TrC _ _ _ _ [(16, _), (15, _), (14, _), (4, _), (3, _), (2, _), (0, _)] _ _
  refine tr_seq (fun K8 hK8 => ?_)
  refine tr_cond rfl (fun c16 => ?_) (fun c16 => ?_)
  · skip
    refine tr_skip (hK8 _ _ (TrC.keep [16, 15, 14, 4, 3, 2, 0] ?_))
    show TrC _ _ _ _ [(16, _), (15, _), (14, _), (4, _), (3, _), (2, _), (0, _)] _ _
    refine tr_seq (fun K9 hK9 => ?_)
    refine tr_block ?_
    refine tr_seq (fun K10 hK10 => ?_)
    -- region 5: deadline.go:159
    have gk : GoodS 65536 (rdT (s3 ((L, bad) : RS)) k.toNat).2 := ((((gg.sI).sN (most := MXI)).sN (most := 256)).rdT k.toNat)
    have hlk := rdT_len (s3 ((L, bad) : RS)) k.toNat
    have hd3 : 0 ≤ nVal (pNum false HZI (sN MXI (sN U64 (rdT (s3 ((L, bad) : RS)) k.toNat).2)).1) ∧ nVal (pNum false HZI (sN MXI (sN U64 (rdT (s3 ((L, bad) : RS)) k.toNat).2)).1) ≤ 1125899906842624 := vN_rng (most := HZI) ((gk.sN (most := U64)).sN (most := MXI)) (by decide)
    refine tr_region ?_
    refine tr_val (ov_move rfl rfl) rfl rfl rfl ?_
    refine tr_call (qNum_c r A5 c5 (rdT (s3 ((L, bad) : RS)) k.toNat).2.1 (rdT (s3 ((L, bad) : RS)) k.toNat).2.2 _ (fun _ _ C => hs4 _ (hA _ _ (H.top1.call1e C))) hc5 gk.1 (by have := gk.2; omega) H.get1 U64) rfl rfl rfl Try.call84 rfl rfl rfl ?_
    rintro _ w9 ⟨A6, c6, rfl, hs5, hc6, HC⟩
    have H := H.top1.call1 HC
    have hs5 := hs4.trans hs5
    refine tr_val (ov_move rfl rfl) rfl rfl rfl ?_
    refine tr_call (qNum_c r A6 c6 (sN U64 (rdT (s3 ((L, bad) : RS)) k.toNat).2).1 (sN U64 (rdT (s3 ((L, bad) : RS)) k.toNat).2).2 _ (fun _ _ C => hs5 _ (hA _ _ (H.call1e C))) hc6 (gk.sN (most := U64)).1 (by have := (gk.sN (most := U64)).2; omega) H.get0 MXI) rfl rfl rfl Try.call84 rfl rfl rfl ?_
    rintro _ w10 ⟨A7, c7, rfl, hs6, hc7, HC⟩
    have H := H.call1 HC
    have hs6 := hs5.trans hs6
    refine tr_val (ov_assign rfl rfl) rfl rfl rfl ?_
    refine tr_val (ov_assign rfl rfl) rfl rfl rfl ?_
    refine tr_nil (hK10 _ _ (TrC.keep [6, 5, 16, 15, 14, 4, 3, 2, 0] ?_))
    show TrC _ _ _ _ [(6, _), (5, _), (16, _), (15, _), (14, _), (4, _), (3, _), (2, _), (0, _)] _ _
    -- region 6: deadline.go:160
    refine tr_held (fun _ => True) mixed rfl H ?_
    intro w11 H
    refine th_take 0 rfl (by kernel_rfl) (by kernel_rfl) (by kernel_rfl) (trivial) (fun _ hS => ov_fieldAddr rfl Try.underlying78 rfl (Try.sizeOf32 _) (by decide) rfl) rfl rfl rfl ?_
    refine th_take 2 rfl (by kernel_rfl) (by kernel_rfl) (by kernel_rfl) (trivial) (fun _ hS => ov_move rfl rfl) rfl rfl rfl ?_
    refine th_take 3 rfl (by kernel_rfl) (by kernel_rfl) (by kernel_rfl) (trivial) (fun _ hS => ov_move rfl rfl) rfl rfl rfl ?_
    refine th_take 4 rfl (by kernel_rfl) (by kernel_rfl) (by kernel_rfl) (trivial) (fun _ hS => ov_move rfl rfl) rfl rfl rfl ?_
    refine th_two 1 5 (by kernel_rfl) ?_ ?_
    · skip
      refine tw_val (ov_load_blk H.get2 rfl (Try.isAgg32 _) rfl rfl rfl) rfl (trivial) rfl rfl rfl ?_
      refine th_one 5 (by kernel_rfl) ?_
      refine tw_call (qNum_c r A7 c7 (sN MXI (sN U64 (rdT (s3 ((L, bad) : RS)) k.toNat).2)).1 (sN MXI (sN U64 (rdT (s3 ((L, bad) : RS)) k.toNat).2)).2 _ (fun _ _ C => hs6 _ (hA _ _ (H.call1e C))) hc7 ((gk.sN (most := U64)).sN (most := MXI)).1 (by have := ((gk.sN (most := U64)).sN (most := MXI)).2; omega) H.get0 HZI) rfl rfl rfl rfl Try.call84 rfl rfl rfl ?_
      rintro _ w12 ⟨A8, c8, rfl, hs7, hc8, HC⟩
      have H := H.call1 HC
      have hs7 := hs6.trans hs7
      refine ⟨trivial, ?_⟩
      refine th_take 6 rfl (by kernel_rfl) (by kernel_rfl) (by kernel_rfl) (trivial) (fun _ hS => ov_conv rfl Try.underlying28 Try.underlying2 rfl (w64 (by omega))) rfl rfl rfl ?_
      refine th_take 7 rfl (by kernel_rfl) (by kernel_rfl) (by kernel_rfl) (trivial) (fun _ hS => ov_build rfl (fun ρ k => bs3 k rfl rfl rfl) (bld30_0_1_2 _ _ _ _)) rfl rfl rfl ?_
      refine th_one 8 (by kernel_rfl) ?_
      refine tw_buildSlice H rfl rfl Try.underlying32 info30 rfl (fun ρ k => bs1 k rfl) (by decide) (by decide) (fill_Thing_1 _ _ _) rfl rfl rfl ?_
      intro b8 w8 hb8 H
      refine ⟨trivial, ?_⟩
      refine th_one 9 (by kernel_rfl) ?_
      refine tw_append (M := [(⟨vN U64 (rdT (s3 ((L, bad) : RS)) k.toNat).2, vN MXI (sN U64 (rdT (s3 ((L, bad) : RS)) k.toNat).2), vN HZI (sN MXI (sN U64 (rdT (s3 ((L, bad) : RS)) k.toNat).2))⟩ : Thing)]) (L := (rdT (s3 ((L, bad) : RS)) k.toNat).1) H.get2 (rd_blk [(⟨vN U64 (rdT (s3 ((L, bad) : RS)) k.toNat).2, vN MXI (sN U64 (rdT (s3 ((L, bad) : RS)) k.toNat).2), vN HZI (sN MXI (sN U64 (rdT (s3 ((L, bad) : RS)) k.toNat).2))⟩ : Thing)] H.get0 rfl lenThing) rfl rfl rfl rfl Try.underlying32 info30 rfl rfl (show Try.t30.bytes = 24 from rfl) rfl (by decide) lenThing oneThing (by rw [List.length_singleton]; omega) (by rw [List.length_singleton]; unfold maxLen; omega) rfl rfl rfl ?_
      intro Aq2 cq2 w30 U; have H := H.upd2 U; clear U
      refine ⟨trivial, ?_⟩
      refine th_take 10 rfl (by kernel_rfl) (by kernel_rfl) (by kernel_rfl) (trivial) (fun _ hS => ov_fieldAddr rfl Try.underlying78 rfl (Try.sizeOf32 _) (by decide) rfl) rfl rfl rfl ?_
      refine th_one 11 (by kernel_rfl) ?_
      (refine tw_store H.get3 rfl rfl (Try.sizeOf32 _) rfl rfl rfl rfl rfl rfl rfl ?_; intro w13 U; have H := H.upd3 U; clear U)
      try simp only [List.set_cons_zero, List.set_cons_succ, Nat.zero_add] at H
      refine ⟨trivial, ?_⟩
      refine th_done (by kernel_rfl) ?_
      refine hK9 _ _ (TrC.keep [6, 5, 16, 15, 14, 4, 3, 2, 0] ?_)
      show TrC _ _ _ _ [(6, _), (5, _), (16, _), (15, _), (14, _), (4, _), (3, _), (2, _), (0, _)] _ _
      -- region 7: deadline.go:158
      refine tr_region ?_
      refine tr_val (ov_add rfl rfl rfl (wu64 (by omega))) rfl rfl rfl ?_
      refine tr_val (ov_move rfl rfl) rfl rfl rfl ?_
      skip
      exact tr_nil (hK6 (⟨k + 1, Aq2, cq2, A8, c8⟩) _ _ (⟨by omega, by omega, by rw [rdT_succ hk0]; exact hs7, by rw [rdT_succ hk0]; exact hc8, by rw [rdT_succ hk0]; exact H.drop0.top1⟩) (by (dsimp only; omega)) (Sub.cons rfl (Sub.cons rfl (Sub.cons rfl (Sub.cons rfl (Sub.cons rfl (Sub.cons rfl Sub.nil)))))))
    · skip
      refine tw_call (qNum_c r A7 c7 (sN MXI (sN U64 (rdT (s3 ((L, bad) : RS)) k.toNat).2)).1 (sN MXI (sN U64 (rdT (s3 ((L, bad) : RS)) k.toNat).2)).2 _ (fun _ _ C => hs6 _ (hA _ _ (H.call1e C))) hc7 ((gk.sN (most := U64)).sN (most := MXI)).1 (by have := ((gk.sN (most := U64)).sN (most := MXI)).2; omega) H.get0 HZI) rfl rfl rfl rfl Try.call84 rfl rfl rfl ?_
      rintro _ w14 ⟨A8, c8, rfl, hs7, hc8, HC⟩
      have H := H.call1 HC
      have hs7 := hs6.trans hs7
      refine ⟨trivial, ?_⟩
      refine th_take 6 rfl (by kernel_rfl) (by kernel_rfl) (by kernel_rfl) (trivial) (fun _ hS => ov_conv rfl Try.underlying28 Try.underlying2 rfl (w64 (by omega))) rfl rfl rfl ?_
      refine th_take 7 rfl (by kernel_rfl) (by kernel_rfl) (by kernel_rfl) (trivial) (fun _ hS => ov_build rfl (fun ρ k => bs3 k rfl rfl rfl) (bld30_0_1_2 _ _ _ _)) rfl rfl rfl ?_
      refine th_two 1 8 (by kernel_rfl) ?_ ?_
      · skip
        refine tw_val (ov_load_blk H.get2 rfl (Try.isAgg32 _) rfl rfl rfl) rfl (trivial) rfl rfl rfl ?_
        refine th_one 8 (by kernel_rfl) ?_
        refine tw_buildSlice H rfl rfl Try.underlying32 info30 rfl (fun ρ k => bs1 k rfl) (by decide) (by decide) (fill_Thing_1 _ _ _) rfl rfl rfl ?_
        intro b8 w8 hb8 H
        refine ⟨trivial, ?_⟩
        refine th_one 9 (by kernel_rfl) ?_
        refine tw_append (M := [(⟨vN U64 (rdT (s3 ((L, bad) : RS)) k.toNat).2, vN MXI (sN U64 (rdT (s3 ((L, bad) : RS)) k.toNat).2), vN HZI (sN MXI (sN U64 (rdT (s3 ((L, bad) : RS)) k.toNat).2))⟩ : Thing)]) (L := (rdT (s3 ((L, bad) : RS)) k.toNat).1) H.get2 (rd_blk [(⟨vN U64 (rdT (s3 ((L, bad) : RS)) k.toNat).2, vN MXI (sN U64 (rdT (s3 ((L, bad) : RS)) k.toNat).2), vN HZI (sN MXI (sN U64 (rdT (s3 ((L, bad) : RS)) k.toNat).2))⟩ : Thing)] H.get0 rfl lenThing) rfl rfl rfl rfl Try.underlying32 info30 rfl rfl (show Try.t30.bytes = 24 from rfl) rfl (by decide) lenThing oneThing (by rw [List.length_singleton]; omega) (by rw [List.length_singleton]; unfold maxLen; omega) rfl rfl rfl ?_
        intro Aq2 cq2 w30 U; have H := H.upd2 U; clear U
        refine ⟨trivial, ?_⟩
        refine th_take 10 rfl (by kernel_rfl) (by kernel_rfl) (by kernel_rfl) (trivial) (fun _ hS => ov_fieldAddr rfl Try.underlying78 rfl (Try.sizeOf32 _) (by decide) rfl) rfl rfl rfl ?_
        refine th_one 11 (by kernel_rfl) ?_
        (refine tw_store H.get3 rfl rfl (Try.sizeOf32 _) rfl rfl rfl rfl rfl rfl rfl ?_; intro w15 U; have H := H.upd3 U; clear U)
        try simp only [List.set_cons_zero, List.set_cons_succ, Nat.zero_add] at H
        refine ⟨trivial, ?_⟩
        refine th_done (by kernel_rfl) ?_
        refine hK9 _ _ (TrC.keep [6, 5, 16, 15, 14, 4, 3, 2, 0] ?_)
        show TrC _ _ _ _ [(6, _), (5, _), (16, _), (15, _), (14, _), (4, _), (3, _), (2, _), (0, _)] _ _
        -- region 7: deadline.go:158
        refine tr_region ?_
        refine tr_val (ov_add rfl rfl rfl (wu64 (by omega))) rfl rfl rfl ?_
        refine tr_val (ov_move rfl rfl) rfl rfl rfl ?_
        skip
        exact tr_nil (hK6 (⟨k + 1, Aq2, cq2, A8, c8⟩) _ _ (⟨by omega, by omega, by rw [rdT_succ hk0]; exact hs7, by rw [rdT_succ hk0]; exact hc8, by rw [rdT_succ hk0]; exact H.drop0.top1⟩) (by (dsimp only; omega)) (Sub.cons rfl (Sub.cons rfl (Sub.cons rfl (Sub.cons rfl (Sub.cons rfl (Sub.cons rfl Sub.nil)))))))
      · skip
        refine tw_buildSlice H rfl rfl Try.underlying32 info30 rfl (fun ρ k => bs1 k rfl) (by decide) (by decide) (fill_Thing_1 _ _ _) rfl rfl rfl ?_
        intro b8 w8 hb8 H
        refine ⟨trivial, ?_⟩
        refine th_one 1 (by kernel_rfl) ?_
        refine tw_val (ov_load_blk H.get3 rfl (Try.isAgg32 _) rfl rfl rfl) rfl (trivial) rfl rfl rfl ?_
        refine th_one 9 (by kernel_rfl) ?_
        refine tw_append (M := [(⟨vN U64 (rdT (s3 ((L, bad) : RS)) k.toNat).2, vN MXI (sN U64 (rdT (s3 ((L, bad) : RS)) k.toNat).2), vN HZI (sN MXI (sN U64 (rdT (s3 ((L, bad) : RS)) k.toNat).2))⟩ : Thing)]) (L := (rdT (s3 ((L, bad) : RS)) k.toNat).1) H.get2 (rd_blk [(⟨vN U64 (rdT (s3 ((L, bad) : RS)) k.toNat).2, vN MXI (sN U64 (rdT (s3 ((L, bad) : RS)) k.toNat).2), vN HZI (sN MXI (sN U64 (rdT (s3 ((L, bad) : RS)) k.toNat).2))⟩ : Thing)] H.get0 rfl lenThing) rfl rfl rfl rfl Try.underlying32 info30 rfl rfl (show Try.t30.bytes = 24 from rfl) rfl (by decide) lenThing oneThing (by rw [List.length_singleton]; omega) (by rw [List.length_singleton]; unfold maxLen; omega) rfl rfl rfl ?_
        intro Aq2 cq2 w30 U; have H := H.upd2 U; clear U
        refine ⟨trivial, ?_⟩
        refine th_take 10 rfl (by kernel_rfl) (by kernel_rfl) (by kernel_rfl) (trivial) (fun _ hS => ov_fieldAddr rfl Try.underlying78 rfl (Try.sizeOf32 _) (by decide) rfl) rfl rfl rfl ?_
        refine th_one 11 (by kernel_rfl) ?_
        (refine tw_store H.get3 rfl rfl (Try.sizeOf32 _) rfl rfl rfl rfl rfl rfl rfl ?_; intro w16 U; have H := H.upd3 U; clear U)
        try simp only [List.set_cons_zero, List.set_cons_succ, Nat.zero_add] at H
        refine ⟨trivial, ?_⟩
        refine th_done (by kernel_rfl) ?_
        refine hK9 _ _ (TrC.keep [6, 5, 16, 15, 14, 4, 3, 2, 0] ?_)
        show TrC _ _ _ _ [(6, _), (5, _), (16, _), (15, _), (14, _), (4, _), (3, _), (2, _), (0, _)] _ _
        -- region 7: deadline.go:158
        refine tr_region ?_
        refine tr_val (ov_add rfl rfl rfl (wu64 (by omega))) rfl rfl rfl ?_
        refine tr_val (ov_move rfl rfl) rfl rfl rfl ?_
        skip
        exact tr_nil (hK6 (⟨k + 1, Aq2, cq2, A8, c8⟩) _ _ (⟨by omega, by omega, by rw [rdT_succ hk0]; exact hs7, by rw [rdT_succ hk0]; exact hc8, by rw [rdT_succ hk0]; exact H.drop0.top1⟩) (by (dsimp only; omega)) (Sub.cons rfl (Sub.cons rfl (Sub.cons rfl (Sub.cons rfl (Sub.cons rfl (Sub.cons rfl Sub.nil)))))))
  · skip
    refine tr_exit (hK4 _ _ (TrC.keep [16, 15, 14, 4, 3, 2, 0] ?_))
    show TrC _ _ _ _ [(16, _), (15, _), (14, _), (4, _), (3, _), (2, _), (0, _)] _ _
    refine tr_seq (fun K11 hK11 => ?_)
    refine tr_seq (fun K12 hK12 => ?_)
    -- region 8: deadline.go:162
    have hke : (rdK ((L, bad) : RS)).toNat = k.toNat := by omega
    have hlk := rdT_len (s3 ((L, bad) : RS)) k.toNat
    have e1 : rdX ((L, bad) : RS) = (rdT (s3 ((L, bad) : RS)) k.toNat).1 := by unfold rdX; rw [hke]
    have e2 : rdZ ((L, bad) : RS) = (rdT (s3 ((L, bad) : RS)) k.toNat).2 := by unfold rdZ; rw [hke]
    refine tr_region ?_
    refine tr_val (ov_move rfl rfl) rfl rfl rfl ?_
    refine tr_val (ov_eql_nil rfl Try.underlying106 rfl rfl) rfl rfl rfl ?_
    refine tr_val (ov_move rfl rfl) rfl rfl rfl ?_
    refine tr_splitb (t := 35) rfl (fun s35 => ?_) (fun s35 => ?_)
    · cases s35
    · skip
      refine tr_val (ov_move rfl rfl) rfl rfl rfl ?_
      refine tr_call (qBad_c r _ _ _ _ _ H.get1) rfl rfl rfl Try.call51 rfl rfl rfl ?_
      rintro _ w17 ⟨rfl, HC⟩
      have H := H.call0n HC
      refine tr_val (ov_pick_f (va := undef) rfl rfl rfl rfl) rfl rfl rfl ?_
      refine tr_val (ov_move rfl rfl) rfl rfl rfl ?_
      refine tr_splitb (t := 39) rfl (fun s39 => ?_) (fun s39 => ?_)
      · skip
        refine tr_pass rfl rfl rfl ?_
        refine tr_pass rfl rfl rfl ?_
        refine tr_pass rfl rfl rfl ?_
        refine tr_val (ov_pick (vb := undef) rfl rfl rfl rfl) rfl rfl rfl ?_
        refine tr_nil (hK12 _ _ (TrC.keep [43, 16, 15, 14, 4, 3, 2, 0] ?_))
        show TrC _ _ _ _ [(43, _), (16, _), (15, _), (14, _), (4, _), (3, _), (2, _), (0, _)] _ _
        refine tr_cond_t rfl rfl ?_
        refine tr_seq (fun K13 hK13 => ?_)
        -- region 9: deadline.go:163
        refine tr_region ?_
        refine tr_val (ov_move rfl rfl) rfl rfl rfl ?_
        refine tr_call (qFail_c r _ _ _ _ _ H.get1) rfl rfl rfl Try.call85 rfl rfl rfl ?_
        rintro _ w18 HC
        have H := H.top1.call1 HC
        refine tr_nil (hK13 _ _ (TrC.keep [43, 16, 15, 14, 4, 3, 2, 0] ?_))
        show TrC _ _ _ _ [(43, _), (16, _), (15, _), (14, _), (4, _), (3, _), (2, _), (0, _)] _ _
        refine tr_seq (fun K14 hK14 => ?_)
        -- region 10: deadline.go:164
        refine tr_region ?_
        refine tr_val (ov_build rfl (fun ρ k => bs0 k) (bld78 _)) rfl rfl rfl ?_
        (refine tr_storeW H.get3 rfl (Try.sizeOf78 _) rfl rfl rfl rfl rfl rfl rfl rfl ?_; intro w19 U; have H := H.upd3 U; clear U)
        refine tr_val (ov_assign rfl rfl) rfl rfl rfl ?_
        refine tr_nil (hK14 _ _ (TrC.keep [3, 43, 16, 15, 14, 4, 2, 0] ?_))
        show TrC _ _ _ _ [(3, _), (43, _), (16, _), (15, _), (14, _), (4, _), (2, _), (0, _)] _ _
        refine tr_ret (post_ret2 (.inr rfl) rfl (by exact ⟨_, rfl, res_blkN H.get3 (Try.isAgg78 _) (Try.sizeOf78 _) rfl rfl⟩) rfl ?_)
        (have ho : rdOk ((L, bad) : RS) = false := (by unfold rdOk; rw [e1, e2]; (rw [s39]; rfl)); unfold oNow oLast oX oS; rw [ho]; exact ⟨none, 0, none, 0, rfl, SubR.nil A1 L, Nat.le_refl _, (H.drop1.drop1.drop1).addNil 30 3 encThing⟩)
      · skip
        refine tr_val (ov_load_blkN H.get2 rfl (Try.isAgg78 _) (Try.sizeOf78 _) rfl rfl rfl) rfl rfl rfl ?_
        refine tr_call (Sound_c Aq cq (rdT (s3 ((L, bad) : RS)) k.toNat).1 (vI ((L, bad) : RS)) (vN MXI (sI ((L, bad) : RS))) _ (vec_rd H.get0 lenThing (by decide)) (by omega)) rfl rfl rfl Try.call42 rfl rfl rfl ?_
        rintro _ w20 ⟨rfl, HC⟩
        have H := H.call0n HC
        refine tr_val (ov_notb rfl rfl) rfl rfl rfl ?_
        refine tr_val (ov_pick_f (va := undef) rfl rfl rfl rfl) rfl rfl rfl ?_
        refine tr_nil (hK12 _ _ (TrC.keep [43, 16, 15, 14, 4, 3, 2, 0] ?_))
        show TrC _ _ _ _ [(43, _), (16, _), (15, _), (14, _), (4, _), (3, _), (2, _), (0, _)] _ _
        refine tr_condb rfl (fun c43 => ?_) (fun c43 => ?_)
        · skip
          refine tr_seq (fun K15 hK15 => ?_)
          -- region 9: deadline.go:163
          refine tr_region ?_
          refine tr_val (ov_move rfl rfl) rfl rfl rfl ?_
          refine tr_call (qFail_c r _ _ _ _ _ H.get1) rfl rfl rfl Try.call85 rfl rfl rfl ?_
          rintro _ w21 HC
          have H := H.top1.call1 HC
          refine tr_nil (hK15 _ _ (TrC.keep [43, 16, 15, 14, 4, 3, 2, 0] ?_))
          show TrC _ _ _ _ [(43, _), (16, _), (15, _), (14, _), (4, _), (3, _), (2, _), (0, _)] _ _
          refine tr_seq (fun K16 hK16 => ?_)
          -- region 10: deadline.go:164
          refine tr_region ?_
          refine tr_val (ov_build rfl (fun ρ k => bs0 k) (bld78 _)) rfl rfl rfl ?_
          (refine tr_storeW H.get3 rfl (Try.sizeOf78 _) rfl rfl rfl rfl rfl rfl rfl rfl ?_; intro w22 U; have H := H.upd3 U; clear U)
          refine tr_val (ov_assign rfl rfl) rfl rfl rfl ?_
          refine tr_nil (hK16 _ _ (TrC.keep [3, 43, 16, 15, 14, 4, 2, 0] ?_))
          show TrC _ _ _ _ [(3, _), (43, _), (16, _), (15, _), (14, _), (4, _), (2, _), (0, _)] _ _
          refine tr_ret (post_ret2 (.inr rfl) rfl (by exact ⟨_, rfl, res_blkN H.get3 (Try.isAgg78 _) (Try.sizeOf78 _) rfl rfl⟩) rfl ?_)
          (have ho : rdOk ((L, bad) : RS) = false := (by unfold rdOk; rw [e1, e2]; (rw [(Bool.not_eq_true' _).mp c43]; exact Bool.and_false _)); unfold oNow oLast oX oS; rw [ho]; exact ⟨none, 0, none, 0, rfl, SubR.nil A1 L, Nat.le_refl _, (H.drop1.drop1.drop1).addNil 30 3 encThing⟩)
        · skip
          refine tr_skip (hK11 _ _ (TrC.keep [43, 16, 15, 14, 4, 3, 2, 0] ?_))
          show TrC _ _ _ _ [(43, _), (16, _), (15, _), (14, _), (4, _), (3, _), (2, _), (0, _)] _ _
          refine tr_seq (fun K17 hK17 => ?_)
          -- region 11: deadline.go:166
          refine tr_region ?_
          refine tr_val (ov_load_blkN H.get2 rfl (Try.isAgg78 _) (Try.sizeOf78 _) rfl rfl rfl) rfl rfl rfl ?_
          (refine tr_storeW H.get3 rfl (Try.sizeOf78 _) rfl rfl rfl rfl rfl rfl rfl rfl ?_; intro w23 U; have H := H.upd3 U; clear U)
          refine tr_val (ov_assign rfl rfl) rfl rfl rfl ?_
          refine tr_nil (hK17 _ _ (TrC.keep [3, 43, 16, 15, 14, 4, 2, 0] ?_))
          show TrC _ _ _ _ [(3, _), (43, _), (16, _), (15, _), (14, _), (4, _), (2, _), (0, _)] _ _
          refine tr_ret (post_ret2 (.inr rfl) rfl (by exact ⟨_, rfl, res_blkN H.get3 (Try.isAgg78 _) (Try.sizeOf78 _) rfl rfl⟩) rfl ?_)
          (have ho : rdOk ((L, bad) : RS) = true := (by unfold rdOk; rw [e1, e2, s39, (Bool.not_eq_false' _).mp c43]; rfl); unfold oNow oLast oX oS; rw [ho, e1, e2]; exact ⟨Aq, cq, A5, c5, rfl, hs4, hc5, H.drop2.drop2⟩)

/-! curfew/curfewref13.Read -/
set_option maxRecDepth 20000 in
theorem rRead_c (r : Nat) (A1 : Option Addr) (c : Nat) (L : List Int) (bad : Bool) (w : World) (hA : ∀ (rs : List Res) (w' : World), SH w (blk r 112 [.slice A1 (L).length c, .bool bad]).foot rs w' → Rd w' A1 1 (L.map encU8)) (hc : L.length ≤ c) (hB : Bytes L) (hl : L.length ≤ 65536) (hO : (blk r 112 [.slice A1 (L).length c, .bool bad]).holds w) : Does Try.prog 49 #[.pointer (some ⟨r, 0, none⟩)] w (fun v w' => ∃ Aq cq A' c', v = .tuple #[.agg #[.int .i64 (oNow ((L, bad) : RS)), .int .u64 (oLast ((L, bad) : RS)), .slice Aq (zR (oX ((L, bad) : RS))).length cq], .bool (rdOk ((L, bad) : RS))] ∧ SubR A1 L A' (oS ((L, bad) : RS)).1 ∧ (oS ((L, bad) : RS)).1.length ≤ c' ∧ SH w (blk r 112 [.slice A1 (L).length c, .bool bad]).foot [vec Aq cq 59 4 encRThing (zR (oX ((L, bad) : RS))), blk r 112 [.slice A' (oS ((L, bad) : RS)).1.length c', .bool (oS ((L, bad) : RS)).2]] w') := by
  refine does_enter1 Try.func49 rfl Try.ntmps49 rfl ?_
  have H := SH.own1 hO
  have gg : GoodS 65536 (L, bad) := ⟨hB, hl⟩
  have hs0 := SubR.refl A1 L
  have hn := vN_rng (most := 256) ((gg.sI).sN (most := MXI)) (by decide)
  have hla := vN_rng (most := MXI) gg.sI (by decide)
  refine tr_seq (fun K1 hK1 => ?_)
  -- region 0: ref.go:103
  refine tr_region ?_
  refine tr_alloc H rfl (Try.zeroValue85 _) rfl rfl rfl rfl ?_
  intro b1 w1 hb1 H
  refine tr_val (ov_assign rfl rfl) rfl rfl rfl ?_
  refine tr_nil (hK1 _ _ (TrC.keep [3, 2, 0] ?_))
  show TrC _ _ _ _ [(3, _), (2, _), (0, _)] _ _
  refine tr_seq (fun K2 hK2 => ?_)
  -- region 1: ref.go:104
  refine tr_region ?_
  refine tr_val (ov_move rfl rfl) rfl rfl rfl ?_
  refine tr_call (rInt_c r A1 c ((L, bad) : RS).1 ((L, bad) : RS).2 _ (fun _ _ C => hs0 _ (hA _ _ (H.top1.call1e C))) hc gg.1 (by have := gg.2; omega) H.get1) rfl rfl rfl Try.call89 rfl rfl rfl ?_
  rintro _ w2 ⟨A2, c2, rfl, hs1, hc2, HC⟩
  have H := H.top1.call1 HC
  have hs1 := hs0.trans hs1
  refine tr_val (ov_build rfl (fun ρ k => bs1 k rfl) (bld85_0 _ _)) rfl rfl rfl ?_
  refine tr_alloc H rfl (Try.zeroValue85 _) rfl rfl rfl rfl ?_
  intro b2 w3 hb2 H
  (refine tr_storeW H.get0 rfl (Try.sizeOf85 _) rfl rfl rfl rfl rfl rfl rfl rfl ?_; intro w4 U; have H := H.upd0 U; clear U)
  refine tr_nil (hK2 _ _ (TrC.keep [4, 3, 2, 0] ?_))
  show TrC _ _ _ _ [(4, _), (3, _), (2, _), (0, _)] _ _
  refine tr_seq (fun K3 hK3 => ?_)
  -- region 2: ref.go:105
  refine tr_region ?_
  refine tr_val (ov_move rfl rfl) rfl rfl rfl ?_
  refine tr_call (rNum_c r A2 c2 (sI ((L, bad) : RS)).1 (sI ((L, bad) : RS)).2 _ (fun _ _ C => hs1 _ (hA _ _ (H.top1.call1e C))) hc2 gg.sI.1 (by have := gg.sI.2; omega) H.get1 MXI) rfl rfl rfl Try.call90 rfl rfl rfl ?_
  rintro _ w5 ⟨A3, c3, rfl, hs2, hc3, HC⟩
  have H := H.top1.call1 HC
  have hs2 := hs1.trans hs2
  refine tr_val (ov_fieldAddr rfl Try.underlying85 rfl (Try.sizeOf28 _) (by decide) rfl) rfl rfl rfl ?_
  (refine tr_store H.get1 rfl (Try.sizeOf28 _) rfl rfl rfl rfl rfl rfl rfl ?_; intro w6 U; have H := H.upd1 U; clear U)
  try simp only [List.set_cons_zero, List.set_cons_succ, Nat.zero_add] at H
  refine tr_nil (hK3 _ _ (TrC.keep [4, 3, 2, 0] ?_))
  show TrC _ _ _ _ [(4, _), (3, _), (2, _), (0, _)] _ _
  refine tr_seq (fun K4 hK4 => ?_)
  -- region 3: ref.go:106
  refine tr_region ?_
  refine tr_val (ov_move rfl rfl) rfl rfl rfl ?_
  refine tr_call (rNum_c r A3 c3 (sN MXI (sI ((L, bad) : RS))).1 (sN MXI (sI ((L, bad) : RS))).2 _ (fun _ _ C => hs2 _ (hA _ _ (H.call1e C))) hc3 (gg.sI.sN (most := MXI)).1 (by have := (gg.sI.sN (most := MXI)).2; omega) H.get0 256) rfl rfl rfl Try.call90 rfl rfl rfl ?_
  rintro _ w7 ⟨A4, c4, rfl, hs3, hc4, HC⟩
  have H := H.call1 HC
  have hs3 := hs2.trans hs3
  have H := H.addNil 59 4 encRThing
  change 0 ≤ (rdK ((L, bad) : RS)) ∧ (rdK ((L, bad) : RS)) ≤ 256 at hn
  have hnv : nVal (pNum false 256 (sN MXI (sI ((L, bad) : RS))).1) = (rdK ((L, bad) : RS)) := rfl
  refine tr_val (ov_assign rfl rfl) rfl rfl rfl ?_
  refine tr_nil (hK4 _ _ (TrC.keep [5, 4, 3, 2, 0] ?_))
  show TrC _ _ _ _ [(5, _), (4, _), (3, _), (2, _), (0, _)] _ _
  refine tr_seq (fun K5 hK5 => ?_)
  refine tr_seq (fun K6 hK6 => ?_)
  -- region 4: ref.go:107
  refine tr_region ?_
  refine tr_val (ov_assign rfl rfl) rfl rfl rfl ?_
  refine tr_nil (hK6 _ _ (TrC.keep [6, 5, 4, 3, 2, 0] ?_))
  show TrC _ _ _ _ [(6, _), (5, _), (4, _), (3, _), (2, _), (0, _)] _ _
  refine tr_block ?_
  refine tr_loop_ (X := Int × Option Addr × Nat × Option Addr × Nat) [5, 4, 3, 2, 0] (fun ⟨k, Aq, cq, A5, c5⟩ => [(6, .int .u64 k)]) (fun ⟨k, Aq, cq, A5, c5⟩ w' => 0 ≤ k ∧ k ≤ (rdK ((L, bad) : RS)) ∧ SubR A1 L A5 (rdT (s3 ((L, bad) : RS)) k.toNat).2.1 ∧ (rdT (s3 ((L, bad) : RS)) k.toNat).2.1.length ≤ c5 ∧ SH w (blk r 112 [.slice A1 (L).length c, .bool bad]).foot [vec Aq cq 59 4 encRThing (zR (rdT (s3 ((L, bad) : RS)) k.toNat).1), blk r 112 [.slice A5 ((rdT (s3 ((L, bad) : RS)) k.toNat).2).1.length c5, .bool ((rdT (s3 ((L, bad) : RS)) k.toNat).2).2], blk b2 85 [.int .i64 (vI ((L, bad) : RS)), .int .u64 (vN MXI (sI ((L, bad) : RS))), .slice Aq ((zR (rdT (s3 ((L, bad) : RS)) k.toNat).1)).length cq], blk b1 85 [.int .i64 0, .int .u64 0, .slice none 0 0]] w') (fun ⟨k, Aq, cq, A5, c5⟩ => ((rdK ((L, bad) : RS)) - k).toNat) (⟨0, none, 0, A4, c4⟩) (Sub.cons rfl (Sub.cons rfl (Sub.cons rfl (Sub.cons rfl (Sub.cons rfl (Sub.cons rfl Sub.nil)))))) (⟨by omega, by omega, hs3, hc4, H⟩) ?_
  rintro ⟨k, Aq, cq, A5, c5⟩ w8 ⟨hk0, hk1, hs4, hc5, H⟩ K7 hK7
  show TrC _ _ _ _ [(6, _), (5, _), (4, _), (3, _), (2, _), (0, _)] _ _
  refine tr_seq (fun K8 hK8 => ?_)
  refine tr_seq (fun K9 hK9 => ?_)
  -- region 5: ref.go:107
  refine tr_region ?_
  refine tr_val (ov_move rfl rfl) rfl rfl rfl ?_
  refine tr_val (ov_move rfl rfl) rfl rfl rfl ?_
  refine tr_val (ov_lss rfl rfl rfl) rfl rfl rfl ?_
  refine tr_nil (hK9 _ _ (TrC.keep [18, 6, 5, 4, 3, 2, 0] ?_))
  show TrC _ _ _ _ [(18, _), (6, _), (5, _), (4, _), (3, _), (2, _), (0, _)] _ _
  refine tr_cond rfl (fun c18 => ?_) (fun c18 => ?_)
  · skip
    refine tr_skip (hK8 _ _ (TrC.keep [18, 6, 5, 4, 3, 2, 0] ?_))
    show TrC _ _ _ _ [(18, _), (6, _), (5, _), (4, _), (3, _), (2, _), (0, _)] _ _
    refine tr_seq (fun K10 hK10 => ?_)
    refine tr_block ?_
    refine tr_seq (fun K11 hK11 => ?_)
    -- region 7: ref.go:108
    refine tr_region ?_
    refine tr_alloc H rfl (Try.zeroValue59 _) rfl rfl rfl rfl ?_
    intro b7 w9 hb7 H
    refine tr_nil (hK11 _ _ (TrC.keep [7, 18, 6, 5, 4, 3, 2, 0] ?_))
    show TrC _ _ _ _ [(7, _), (18, _), (6, _), (5, _), (4, _), (3, _), (2, _), (0, _)] _ _
    refine tr_seq (fun K12 hK12 => ?_)
    -- region 8: ref.go:109
    have gk : GoodS 65536 (rdT (s3 ((L, bad) : RS)) k.toNat).2 := ((((gg.sI).sN (most := MXI)).sN (most := 256)).rdT k.toNat)
    have hlk := rdT_len (s3 ((L, bad) : RS)) k.toNat
    have hzk := zR_len (rdT (s3 ((L, bad) : RS)) k.toNat).1
    have hd3 : 0 ≤ nVal (pNum false HZI (sN MXI (sN U64 (rdT (s3 ((L, bad) : RS)) k.toNat).2)).1) ∧ nVal (pNum false HZI (sN MXI (sN U64 (rdT (s3 ((L, bad) : RS)) k.toNat).2)).1) ≤ 1125899906842624 := vN_rng (most := HZI) ((gk.sN (most := U64)).sN (most := MXI)) (by decide)
    refine tr_region ?_
    refine tr_val (ov_move rfl rfl) rfl rfl rfl ?_
    refine tr_call (rNum_c r A5 c5 (rdT (s3 ((L, bad) : RS)) k.toNat).2.1 (rdT (s3 ((L, bad) : RS)) k.toNat).2.2 _ (fun _ _ C => hs4 _ (hA _ _ (H.top2.call1e C))) hc5 gk.1 (by have := gk.2; omega) H.get2 U64) rfl rfl rfl Try.call90 rfl rfl rfl ?_
    rintro _ w10 ⟨A6, c6, rfl, hs5, hc6, HC⟩
    have H := H.top2.call1 HC
    have hs5 := hs4.trans hs5
    refine tr_val (ov_fieldAddr rfl Try.underlying59 rfl (Try.sizeOf28 _) (by decide) rfl) rfl rfl rfl ?_
    (refine tr_store H.get1 rfl (Try.sizeOf28 _) rfl rfl rfl rfl rfl rfl rfl ?_; intro w11 U; have H := H.upd1 U; clear U)
    try simp only [List.set_cons_zero, List.set_cons_succ, Nat.zero_add] at H
    refine tr_nil (hK12 _ _ (TrC.keep [7, 18, 6, 5, 4, 3, 2, 0] ?_))
    show TrC _ _ _ _ [(7, _), (18, _), (6, _), (5, _), (4, _), (3, _), (2, _), (0, _)] _ _
    refine tr_seq (fun K13 hK13 => ?_)
    -- region 9: ref.go:110
    refine tr_region ?_
    refine tr_val (ov_move rfl rfl) rfl rfl rfl ?_
    refine tr_call (rNum_c r A6 c6 (sN U64 (rdT (s3 ((L, bad) : RS)) k.toNat).2).1 (sN U64 (rdT (s3 ((L, bad) : RS)) k.toNat).2).2 _ (fun _ _ C => hs5 _ (hA _ _ (H.call1e C))) hc6 (gk.sN (most := U64)).1 (by have := (gk.sN (most := U64)).2; omega) H.get0 MXI) rfl rfl rfl Try.call90 rfl rfl rfl ?_
    rintro _ w12 ⟨A7, c7, rfl, hs6, hc7, HC⟩
    have H := H.call1 HC
    have hs6 := hs5.trans hs6
    refine tr_val (ov_fieldAddr rfl Try.underlying59 rfl (Try.sizeOf28 _) (by decide) rfl) rfl rfl rfl ?_
    (refine tr_store H.get1 rfl (Try.sizeOf28 _) rfl rfl rfl rfl rfl rfl rfl ?_; intro w13 U; have H := H.upd1 U; clear U)
    try simp only [List.set_cons_zero, List.set_cons_succ, Nat.zero_add] at H
    refine tr_nil (hK13 _ _ (TrC.keep [7, 18, 6, 5, 4, 3, 2, 0] ?_))
    show TrC _ _ _ _ [(7, _), (18, _), (6, _), (5, _), (4, _), (3, _), (2, _), (0, _)] _ _
    refine tr_seq (fun K14 hK14 => ?_)
    -- region 10: ref.go:111
    refine tr_region ?_
    refine tr_val (ov_move rfl rfl) rfl rfl rfl ?_
    refine tr_call (rNum_c r A7 c7 (sN MXI (sN U64 (rdT (s3 ((L, bad) : RS)) k.toNat).2)).1 (sN MXI (sN U64 (rdT (s3 ((L, bad) : RS)) k.toNat).2)).2 _ (fun _ _ C => hs6 _ (hA _ _ (H.call1e C))) hc7 ((gk.sN (most := U64)).sN (most := MXI)).1 (by have := ((gk.sN (most := U64)).sN (most := MXI)).2; omega) H.get0 HZI) rfl rfl rfl Try.call90 rfl rfl rfl ?_
    rintro _ w14 ⟨A8, c8, rfl, hs7, hc8, HC⟩
    have H := H.call1 HC
    have hs7 := hs6.trans hs7
    refine tr_val (ov_conv rfl Try.underlying28 Try.underlying2 rfl (w64 (by omega))) rfl rfl rfl ?_
    refine tr_val (ov_fieldAddr rfl Try.underlying59 rfl (Try.sizeOf2 _) (by decide) rfl) rfl rfl rfl ?_
    (refine tr_store H.get1 rfl (Try.sizeOf2 _) rfl rfl rfl rfl rfl rfl rfl ?_; intro w15 U; have H := H.upd1 U; clear U)
    try simp only [List.set_cons_zero, List.set_cons_succ, Nat.zero_add] at H
    refine tr_nil (hK14 _ _ (TrC.keep [7, 18, 6, 5, 4, 3, 2, 0] ?_))
    show TrC _ _ _ _ [(7, _), (18, _), (6, _), (5, _), (4, _), (3, _), (2, _), (0, _)] _ _
    -- region 11: ref.go:112
    refine tr_region ?_
    refine tr_val (ov_fieldAddr rfl Try.underlying85 rfl (Try.sizeOf46 _) (by decide) rfl) rfl rfl rfl ?_
    refine tr_val (ov_load_blk H.get3 rfl (Try.isAgg46 _) rfl rfl rfl) rfl rfl rfl ?_
    refine tr_val (ov_load_blkN H.get1 rfl (Try.isAgg59 _) (Try.sizeOf59 _) rfl rfl rfl) rfl rfl rfl ?_
    refine tr_buildSlice H rfl Try.underlying46 info59 rfl (fun ρ k => bs1 k rfl) (by decide) (by decide) (fill_RThing_1 _ _ _ _) rfl rfl rfl ?_
    intro b8 wb80 hb8 H
    refine tr_append (M := [toR (⟨vN U64 (rdT (s3 ((L, bad) : RS)) k.toNat).2, vN MXI (sN U64 (rdT (s3 ((L, bad) : RS)) k.toNat).2), vN HZI (sN MXI (sN U64 (rdT (s3 ((L, bad) : RS)) k.toNat).2))⟩ : Thing) 0]) (L := (zR (rdT (s3 ((L, bad) : RS)) k.toNat).1)) H.get3 (rd_blk [toR (⟨vN U64 (rdT (s3 ((L, bad) : RS)) k.toNat).2, vN MXI (sN U64 (rdT (s3 ((L, bad) : RS)) k.toNat).2), vN HZI (sN MXI (sN U64 (rdT (s3 ((L, bad) : RS)) k.toNat).2))⟩ : Thing) 0] H.get0 rfl lenRThing) rfl rfl rfl Try.underlying46 info59 rfl rfl (show Try.t59.bytes = 32 from rfl) rfl (by decide) lenRThing oneRThing (by rw [List.length_singleton]; omega) (by rw [List.length_singleton]; unfold maxLen; omega) rfl rfl rfl ?_
    intro Aq2 cq2 w30 U; have H := H.upd3 U; clear U
    rw [zR_snoc] at H ⊢
    refine tr_val (ov_fieldAddr rfl Try.underlying85 rfl (Try.sizeOf46 _) (by decide) rfl) rfl rfl rfl ?_
    (refine tr_store H.get4 rfl (Try.sizeOf46 _) rfl rfl rfl rfl rfl rfl rfl ?_; intro w16 U; have H := H.upd4 U; clear U)
    try simp only [List.set_cons_zero, List.set_cons_succ, Nat.zero_add] at H
    refine tr_nil (hK10 _ _ (TrC.keep [7, 18, 6, 5, 4, 3, 2, 0] ?_))
    show TrC _ _ _ _ [(7, _), (18, _), (6, _), (5, _), (4, _), (3, _), (2, _), (0, _)] _ _
    -- region 6: ref.go:107
    refine tr_region ?_
    refine tr_val (ov_move rfl rfl) rfl rfl rfl ?_
    refine tr_val (ov_add rfl rfl rfl (wu64 (by omega))) rfl rfl rfl ?_
    refine tr_val (ov_assign rfl rfl) rfl rfl rfl ?_
    skip
    exact tr_nil (hK7 (⟨k + 1, Aq2, cq2, A8, c8⟩) _ _ (⟨by omega, by omega, by rw [rdT_succ hk0]; exact hs7, by rw [rdT_succ hk0]; exact hc8, by rw [rdT_succ hk0]; exact H.drop0.drop1.top1⟩) (by (dsimp only; omega)) (Sub.cons rfl (Sub.cons rfl (Sub.cons rfl (Sub.cons rfl (Sub.cons rfl (Sub.cons rfl Sub.nil)))))))
  · skip
    refine tr_exit (hK5 _ _ (TrC.keep [18, 6, 5, 4, 3, 2, 0] ?_))
    show TrC _ _ _ _ [(18, _), (6, _), (5, _), (4, _), (3, _), (2, _), (0, _)] _ _
    refine tr_seq (fun K15 hK15 => ?_)
    refine tr_seq (fun K16 hK16 => ?_)
    -- region 12: ref.go:114
    have hke : (rdK ((L, bad) : RS)).toNat = k.toNat := by omega
    have hlk := rdT_len (s3 ((L, bad) : RS)) k.toNat
    have hzk := zR_len (rdT (s3 ((L, bad) : RS)) k.toNat).1
    have e1 : rdX ((L, bad) : RS) = (rdT (s3 ((L, bad) : RS)) k.toNat).1 := by unfold rdX; rw [hke]
    have e2 : rdZ ((L, bad) : RS) = (rdT (s3 ((L, bad) : RS)) k.toNat).2 := by unfold rdZ; rw [hke]
    refine tr_region ?_
    refine tr_val (ov_move rfl rfl) rfl rfl rfl ?_
    refine tr_val (ov_nilCheck rfl rfl) rfl rfl rfl ?_
    refine tr_val (ov_fieldAddr rfl Try.underlying112 rfl (Try.sizeOf4 _) (by decide) rfl) rfl rfl rfl ?_
    refine tr_val (ov_load_blk H.get1 rfl (Try.isAgg4 _) rfl rfl rfl) rfl rfl rfl ?_
    refine tr_val (ov_move rfl rfl) rfl rfl rfl ?_
    refine tr_splitb (t := 41) rfl (fun s41 => ?_) (fun s41 => ?_)
    · skip
      refine tr_pass rfl rfl rfl ?_
      refine tr_pass rfl rfl rfl ?_
      refine tr_pass rfl rfl rfl ?_
      refine tr_val (ov_pick (vb := undef) rfl rfl rfl rfl) rfl rfl rfl ?_
      refine tr_nil (hK16 _ _ (TrC.keep [45, 18, 6, 5, 4, 3, 2, 0] ?_))
      show TrC _ _ _ _ [(45, _), (18, _), (6, _), (5, _), (4, _), (3, _), (2, _), (0, _)] _ _
      refine tr_cond_t rfl rfl ?_
      refine tr_seq (fun K17 hK17 => ?_)
      -- region 13: ref.go:115
      refine tr_region ?_
      refine tr_val (ov_move rfl rfl) rfl rfl rfl ?_
      refine tr_call (rFail_c r _ _ _ _ _ H.get1) rfl rfl rfl Try.call91 rfl rfl rfl ?_
      rintro _ w17 HC
      have H := H.top1.call1 HC
      refine tr_nil (hK17 _ _ (TrC.keep [45, 18, 6, 5, 4, 3, 2, 0] ?_))
      show TrC _ _ _ _ [(45, _), (18, _), (6, _), (5, _), (4, _), (3, _), (2, _), (0, _)] _ _
      refine tr_seq (fun K18 hK18 => ?_)
      -- region 14: ref.go:116
      refine tr_region ?_
      refine tr_val (ov_build rfl (fun ρ k => bs0 k) (bld85 _)) rfl rfl rfl ?_
      (refine tr_storeW H.get3 rfl (Try.sizeOf85 _) rfl rfl rfl rfl rfl rfl rfl rfl ?_; intro w18 U; have H := H.upd3 U; clear U)
      refine tr_val (ov_assign rfl rfl) rfl rfl rfl ?_
      refine tr_nil (hK18 _ _ (TrC.keep [3, 45, 18, 6, 5, 4, 2, 0] ?_))
      show TrC _ _ _ _ [(3, _), (45, _), (18, _), (6, _), (5, _), (4, _), (2, _), (0, _)] _ _
      refine tr_ret (post_ret2 (.inr rfl) rfl (by exact ⟨_, rfl, res_blkN H.get3 (Try.isAgg85 _) (Try.sizeOf85 _) rfl rfl⟩) rfl ?_)
      (have ho : rdOk ((L, bad) : RS) = false := (by unfold rdOk; rw [e1, e2]; (rw [s41]; rfl)); unfold oNow oLast oX oS; rw [ho]; exact ⟨none, 0, none, 0, rfl, SubR.nil A1 L, Nat.le_refl _, (H.drop1.drop1.drop1).addNil 59 4 encRThing⟩)
    · skip
      refine tr_val (ov_load_blkN H.get2 rfl (Try.isAgg85 _) (Try.sizeOf85 _) rfl rfl rfl) rfl rfl rfl ?_
      refine tr_call (SoundR_c Aq cq (zR (rdT (s3 ((L, bad) : RS)) k.toNat).1) (vI ((L, bad) : RS)) (vN MXI (sI ((L, bad) : RS))) _ (vec_rd H.get0 lenRThing (by decide)) (by omega)) rfl rfl rfl Try.call37 rfl rfl rfl ?_
      rintro _ w19 ⟨rfl, HC⟩
      have H := H.call0n HC
      rw [zR_plain]
      refine tr_val (ov_notb rfl rfl) rfl rfl rfl ?_
      refine tr_val (ov_pick_f (va := undef) rfl rfl rfl rfl) rfl rfl rfl ?_
      refine tr_nil (hK16 _ _ (TrC.keep [45, 18, 6, 5, 4, 3, 2, 0] ?_))
      show TrC _ _ _ _ [(45, _), (18, _), (6, _), (5, _), (4, _), (3, _), (2, _), (0, _)] _ _
      refine tr_condb rfl (fun c45 => ?_) (fun c45 => ?_)
      · skip
        refine tr_seq (fun K19 hK19 => ?_)
        -- region 13: ref.go:115
        refine tr_region ?_
        refine tr_val (ov_move rfl rfl) rfl rfl rfl ?_
        refine tr_call (rFail_c r _ _ _ _ _ H.get1) rfl rfl rfl Try.call91 rfl rfl rfl ?_
        rintro _ w20 HC
        have H := H.top1.call1 HC
        refine tr_nil (hK19 _ _ (TrC.keep [45, 18, 6, 5, 4, 3, 2, 0] ?_))
        show TrC _ _ _ _ [(45, _), (18, _), (6, _), (5, _), (4, _), (3, _), (2, _), (0, _)] _ _
        refine tr_seq (fun K20 hK20 => ?_)
        -- region 14: ref.go:116
        refine tr_region ?_
        refine tr_val (ov_build rfl (fun ρ k => bs0 k) (bld85 _)) rfl rfl rfl ?_
        (refine tr_storeW H.get3 rfl (Try.sizeOf85 _) rfl rfl rfl rfl rfl rfl rfl rfl ?_; intro w21 U; have H := H.upd3 U; clear U)
        refine tr_val (ov_assign rfl rfl) rfl rfl rfl ?_
        refine tr_nil (hK20 _ _ (TrC.keep [3, 45, 18, 6, 5, 4, 2, 0] ?_))
        show TrC _ _ _ _ [(3, _), (45, _), (18, _), (6, _), (5, _), (4, _), (2, _), (0, _)] _ _
        refine tr_ret (post_ret2 (.inr rfl) rfl (by exact ⟨_, rfl, res_blkN H.get3 (Try.isAgg85 _) (Try.sizeOf85 _) rfl rfl⟩) rfl ?_)
        (have ho : rdOk ((L, bad) : RS) = false := (by unfold rdOk; rw [e1, e2]; (rw [(Bool.not_eq_true' _).mp c45]; exact Bool.and_false _)); unfold oNow oLast oX oS; rw [ho]; exact ⟨none, 0, none, 0, rfl, SubR.nil A1 L, Nat.le_refl _, (H.drop1.drop1.drop1).addNil 59 4 encRThing⟩)
      · skip
        refine tr_skip (hK15 _ _ (TrC.keep [45, 18, 6, 5, 4, 3, 2, 0] ?_))
        show TrC _ _ _ _ [(45, _), (18, _), (6, _), (5, _), (4, _), (3, _), (2, _), (0, _)] _ _
        refine tr_seq (fun K21 hK21 => ?_)
        -- region 15: ref.go:118
        refine tr_region ?_
        refine tr_val (ov_load_blkN H.get2 rfl (Try.isAgg85 _) (Try.sizeOf85 _) rfl rfl rfl) rfl rfl rfl ?_
        (refine tr_storeW H.get3 rfl (Try.sizeOf85 _) rfl rfl rfl rfl rfl rfl rfl rfl ?_; intro w22 U; have H := H.upd3 U; clear U)
        refine tr_val (ov_assign rfl rfl) rfl rfl rfl ?_
        refine tr_nil (hK21 _ _ (TrC.keep [3, 45, 18, 6, 5, 4, 2, 0] ?_))
        show TrC _ _ _ _ [(3, _), (45, _), (18, _), (6, _), (5, _), (4, _), (2, _), (0, _)] _ _
        refine tr_ret (post_ret2 (.inr rfl) rfl (by exact ⟨_, rfl, res_blkN H.get3 (Try.isAgg85 _) (Try.sizeOf85 _) rfl rfl⟩) rfl ?_)
        (have ho : rdOk ((L, bad) : RS) = true := (by unfold rdOk; rw [e1, e2, s41, (Bool.not_eq_false' _).mp c45]; rfl); unfold oNow oLast oX oS; rw [ho, e1, e2]; exact ⟨Aq, cq, A5, c5, rfl, hs4, hc5, H.drop2.drop2⟩)

end Go.Proofs.Ytblipnjjgbggiaa
