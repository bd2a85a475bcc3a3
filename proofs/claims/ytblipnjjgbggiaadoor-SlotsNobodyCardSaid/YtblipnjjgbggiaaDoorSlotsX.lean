/- SlotsSort, SlotsPlay, SlotsNobody. Conditions: none. -/
import Derived.Test.YtblipnjjgbggiaaDoorSlotsL
namespace Go.Proofs.YtblipnjjgbggiaaDoor
open Go Go.RowKit
set_option linter.unusedVariables false
set_option linter.unusedSimpArgs false

/-! curfew/curfewlaw11.SlotsPlay -/
set_option maxRecDepth 20000 in
theorem SlotsPlay_c (B : Option Addr) (c : Nat) (L : List SOp) (w : World) (hR : Rd w B 5 (L.map encSOp)) (hT : tabR.holds w) : Does Tryd.prog 4 #[.slice B L.length c] w (fun v w' => v = .bool true ∧ SH w noBlocks [] w') := by
  refine does_enter1 Tryd.func4 rfl Tryd.ntmps4 rfl ?_
  have H := SH.start w noBlocks
  refine tr_seq (fun K1 hK1 => ?_)
  -- region 0: law.go:91
  refine tr_region ?_
  refine tr_val (ov_assign rfl rfl) rfl rfl rfl ?_
  refine tr_nil (hK1 _ _ (TrC.keep [2, 0] ?_))
  show TrC _ _ _ _ [(2, _), (0, _)] _ _
  refine tr_seq (fun K2 hK2 => ?_)
  refine tr_seq (fun K3 hK3 => ?_)
  -- region 1: law.go:92
  refine tr_region ?_
  refine tr_val (ov_move rfl rfl) rfl rfl rfl ?_
  refine tr_val (ov_len rfl rfl Tryd.underlying37 rfl) rfl rfl rfl ?_
  refine tr_val (ov_gtr rfl rfl rfl) rfl rfl rfl ?_
  refine tr_nil (hK3 _ _ (TrC.keep [14, 2, 0] ?_))
  show TrC _ _ _ _ [(14, _), (2, _), (0, _)] _ _
  first | refine tr_cond rfl (fun c14 => ?_) (fun c14 => ?_) | refine tr_condb rfl (fun c14 => ?_) (fun c14 => ?_)
  · skip
    refine tr_seq (fun K4 hK4 => ?_)
    -- region 2: law.go:93
    refine tr_region ?_
    refine tr_call (lives11_c _ (H.res0 hT)) rfl rfl rfl Tryd.call6 rfl rfl rfl ?_
    rintro _ w1 ⟨rfl, HC⟩
    have H := H.call0n HC
    refine tr_val (ov_assign rfl rfl) rfl rfl rfl ?_
    refine tr_nil (hK4 _ _ (TrC.keep [2, 14, 0] ?_))
    show TrC _ _ _ _ [(2, _), (14, _), (0, _)] _ _
    refine tr_ret (post_ret1 (.inr rfl) rfl rfl ?_)
    exact ⟨rfl, H⟩
  · skip
    refine tr_skip (hK2 _ _ (TrC.keep [14, 2, 0] ?_))
    show TrC _ _ _ _ [(14, _), (2, _), (0, _)] _ _
    refine tr_seq (fun K5 hK5 => ?_)
    -- region 3: law.go:95
    refine tr_region ?_
    refine tr_call (ringNew_c _) rfl rfl rfl Tryd.call13 rfl rfl rfl ?_
    rintro _ w2 ⟨d, R0, rfl, hR0, HC⟩
    have H := H.call0r HC
    refine tr_val (ov_assign rfl rfl) rfl rfl rfl ?_
    refine tr_nil (hK5 _ _ (TrC.keep [3, 14, 2, 0] ?_))
    show TrC _ _ _ _ [(3, _), (14, _), (2, _), (0, _)] _ _
    refine tr_seq (fun K6 hK6 => ?_)
    -- region 4: law.go:96
    refine tr_region ?_
    refine tr_val (ov_assign rfl rfl) rfl rfl rfl ?_
    refine tr_nil (hK6 _ _ (TrC.keep [4, 3, 14, 2, 0] ?_))
    show TrC _ _ _ _ [(4, _), (3, _), (14, _), (2, _), (0, _)] _ _
    refine tr_seq (fun K7 hK7 => ?_)
    refine tr_seq (fun K8 hK8 => ?_)
    -- region 5: law.go:97
    have H := H.add (upd_emp_rdr _ 4)
    refine tr_region ?_
    refine tr_val (ov_move rfl rfl) rfl rfl rfl ?_
    refine tr_val (ov_len rfl rfl Tryd.underlying37 rfl) rfl rfl rfl ?_
    refine tr_val (ov_move rfl rfl) rfl rfl rfl ?_
    refine tr_nil (hK8 _ _ (TrC.keep [19, 18, 17, 4, 3, 14, 2, 0] ?_))
    show TrC _ _ _ _ [(19, _), (18, _), (17, _), (4, _), (3, _), (14, _), (2, _), (0, _)] _ _
    refine tr_block ?_
    refine tr_loop_ (X := Int × List RThing × Option Addr × Nat × List Res) [18, 17, 3, 14, 0] (fun ⟨i, W, A1, c1, R⟩ => [(19, .int .i64 i), (4, .slice A1 W.length c1)]) (fun ⟨i, W, A1, c1, R⟩ w' => 0 ≤ i ∧ i ≤ L.length ∧ W.length ≤ i ∧ W.length ≤ c1 ∧ RingL 54 27 d W R ∧ SH w noBlocks [rdr A1 4 (W.map encRThing), pack R] w') (fun ⟨i, W, A1, c1, R⟩ => (L.length - i).toNat) (⟨0, [], none, 0, R0⟩) (Sub.cons rfl (Sub.cons rfl (Sub.cons rfl (Sub.cons rfl (Sub.cons rfl (Sub.cons rfl (Sub.cons rfl Sub.nil))))))) (⟨by omega, by omega, by simp, by simp, hR0, H⟩) ?_
    rintro ⟨i, W, A1, c1, R⟩ w3 ⟨hi0, hi1, hWi, hc1, hRg, H⟩ K9 hK9
    show TrC _ _ _ _ [(19, _), (4, _), (18, _), (17, _), (3, _), (14, _), (0, _)] _ _
    refine tr_seq (fun K10 hK10 => ?_)
    -- region 6: law.go:97
    refine tr_region ?_
    refine tr_val (ov_lss rfl rfl rfl) rfl rfl rfl ?_
    refine tr_nil (hK10 _ _ (TrC.keep [20, 19, 4, 18, 17, 3, 14, 0] ?_))
    show TrC _ _ _ _ [(20, _), (19, _), (4, _), (18, _), (17, _), (3, _), (14, _), (0, _)] _ _
    refine tr_seq (fun K11 hK11 => ?_)
    first | refine tr_cond rfl (fun c20 => ?_) (fun c20 => ?_) | refine tr_condb rfl (fun c20 => ?_) (fun c20 => ?_)
    · skip
      refine tr_skip (hK11 _ _ (TrC.keep [20, 19, 4, 18, 17, 3, 14, 0] ?_))
      show TrC _ _ _ _ [(20, _), (19, _), (4, _), (18, _), (17, _), (3, _), (14, _), (0, _)] _ _
      refine tr_seq (fun K12 hK12 => ?_)
      refine tr_block ?_
      refine tr_seq (fun K13 hK13 => ?_)
      -- region 7: law.go:97
      refine tr_region ?_
      refine tr_val (ov_indexAddrR (H.rd0 hR) rfl Tryd.underlying37 (Tryd.sizeOf41 _) rfl rfl (by omega) (by omega)) rfl rfl rfl ?_
      refine tr_val (ld_SOp (H.rd0 hR) rfl (Tryd.isAgg41 _) (Tryd.sizeOf41 _) rfl (by omega) (by omega)) rfl rfl rfl ?_
      refine tr_alloc H rfl (Tryd.zeroValue41 _) rfl rfl rfl rfl ?_
      intro b1 w4 hb1 H
      first | (refine tr_storeW H.get0 rfl (Tryd.sizeOf41 _) rfl rfl rfl rfl rfl rfl rfl rfl ?_; intro w5 U; have H := H.upd0 U; clear U) | (refine tr_storeW H.get1 rfl (Tryd.sizeOf41 _) rfl rfl rfl rfl rfl rfl rfl rfl ?_; intro w5 U; have H := H.upd1 U; clear U) | (refine tr_storeW H.get2 rfl (Tryd.sizeOf41 _) rfl rfl rfl rfl rfl rfl rfl rfl ?_; intro w5 U; have H := H.upd2 U; clear U) | (refine tr_storeW H.get3 rfl (Tryd.sizeOf41 _) rfl rfl rfl rfl rfl rfl rfl rfl ?_; intro w5 U; have H := H.upd3 U; clear U) | (refine tr_storeW H.get4 rfl (Tryd.sizeOf41 _) rfl rfl rfl rfl rfl rfl rfl rfl ?_; intro w5 U; have H := H.upd4 U; clear U) | (refine tr_storeW H.get5 rfl (Tryd.sizeOf41 _) rfl rfl rfl rfl rfl rfl rfl rfl ?_; intro w5 U; have H := H.upd5 U; clear U)
      refine tr_nil (hK13 _ _ (TrC.keep [6, 20, 19, 4, 18, 17, 3, 14, 0] ?_))
      show TrC _ _ _ _ [(6, _), (20, _), (19, _), (4, _), (18, _), (17, _), (3, _), (14, _), (0, _)] _ _
      refine tr_seq (fun K14 hK14 => ?_)
      -- region 8: law.go:98
      refine tr_region ?_
      refine tr_val (ov_move rfl rfl) rfl rfl rfl ?_
      refine tr_val (ov_move rfl rfl) rfl rfl rfl ?_
      first | refine tr_val (ov_load_blkN H.get0 rfl (Tryd.isAgg41 _) (Tryd.sizeOf41 _) rfl rfl rfl) rfl rfl rfl ?_ | refine tr_val (ov_load_blkN H.get1 rfl (Tryd.isAgg41 _) (Tryd.sizeOf41 _) rfl rfl rfl) rfl rfl rfl ?_ | refine tr_val (ov_load_blkN H.get2 rfl (Tryd.isAgg41 _) (Tryd.sizeOf41 _) rfl rfl rfl) rfl rfl rfl ?_ | refine tr_val (ov_load_blkN H.get3 rfl (Tryd.isAgg41 _) (Tryd.sizeOf41 _) rfl rfl rfl) rfl rfl rfl ?_ | refine tr_val (ov_load_blkN H.get4 rfl (Tryd.isAgg41 _) (Tryd.sizeOf41 _) rfl rfl rfl) rfl rfl rfl ?_ | refine tr_val (ov_load_blkN H.get5 rfl (Tryd.isAgg41 _) (Tryd.sizeOf41 _) rfl rfl rfl) rfl rfl rfl ?_
      refine tr_call (do11_c A1 c1 W hc1 (by omega) d R _ hRg (H.drop0.own_ [_, _]) (H.res0 hT) (fun b hb hF => by obtain ⟨r, hr, hrb⟩ := hF; have h0 : b = 0 := hb; subst h0; have := H.own r (List.mem_cons_of_mem _ hr) 0 hrb; have h2 := tabR.inside w 0 hT rfl; rcases this with h | h; exact h; omega) (gt L i)) rfl rfl rfl Tryd.call14 rfl rfl rfl ?_
      rintro _ w6 ⟨A2, c2, rfl, hc2, R2, hR2, HC⟩
      have H := H.top1.top2.top1.call2 HC
      have hdl := doV_le W (gt L i)
      refine tr_val (ov_move rfl rfl) rfl rfl rfl ?_
      refine tr_val (ov_extract rfl rfl rfl) rfl rfl rfl ?_
      refine tr_val (ov_extract rfl rfl rfl) rfl rfl rfl ?_
      refine tr_val (ov_assign rfl rfl) rfl rfl rfl ?_
      refine tr_val (ov_assign rfl rfl) rfl rfl rfl ?_
      refine tr_nil (hK14 _ _ (TrC.keep [8, 7, 6, 20, 19, 4, 18, 17, 3, 14, 0] ?_))
      show TrC _ _ _ _ [(8, _), (7, _), (6, _), (20, _), (19, _), (4, _), (18, _), (17, _), (3, _), (14, _), (0, _)] _ _
      refine tr_seq (fun K15 hK15 => ?_)
      -- region 9: law.go:99
      refine tr_region ?_
      refine tr_val (ov_move rfl rfl) rfl rfl rfl ?_
      refine tr_val (ov_assign rfl rfl) rfl rfl rfl ?_
      refine tr_nil (hK15 _ _ (TrC.keep [4, 8, 6, 20, 19, 18, 17, 3, 14, 0] ?_))
      show TrC _ _ _ _ [(4, _), (8, _), (6, _), (20, _), (19, _), (18, _), (17, _), (3, _), (14, _), (0, _)] _ _
      refine tr_seq (fun K16 hK16 => ?_)
      -- region 10: law.go:100
      refine tr_region ?_
      refine tr_val (ov_move rfl rfl) rfl rfl rfl ?_
      first | refine tr_val (ov_not rfl rfl) rfl rfl rfl ?_ | refine tr_val (ov_notb rfl rfl) rfl rfl rfl ?_
      refine tr_val (ov_move rfl rfl) rfl rfl rfl ?_
      first | refine tr_split (t := 33) rfl (fun s33 => ?_) (fun s33 => ?_) | refine tr_splitb (t := 33) rfl (fun s33 => ?_) (fun s33 => ?_)
      · exact absurd s33 (by decide)
      · skip
        refine tr_val (ov_move rfl rfl) rfl rfl rfl ?_
        refine tr_call (ringLen_c d (doV W (gt L i)) R2 _ hR2 H.get1) rfl rfl rfl Tryd.call15 rfl rfl rfl ?_
        rintro _ w7 ⟨rfl, HC⟩
        have H := H.call0n HC
        refine tr_val (ov_move rfl rfl) rfl rfl rfl ?_
        refine tr_val (ov_len rfl rfl Tryd.underlying24 rfl) rfl rfl rfl ?_
        refine tr_val (ov_neq rfl rfl rfl) rfl rfl rfl ?_
        refine tr_val (ov_pick_f (va := undef) rfl rfl rfl rfl) rfl rfl rfl ?_
        refine tr_val (ov_move rfl rfl) rfl rfl rfl ?_
        first | refine tr_split (t := 40) rfl (fun s40 => ?_) (fun s40 => ?_) | refine tr_splitb (t := 40) rfl (fun s40 => ?_) (fun s40 => ?_)
        · exact absurd rfl s40
        · skip
          refine tr_val (ov_move rfl rfl) rfl rfl rfl ?_
          refine tr_call (ringUsed_c d (doV W (gt L i)) R2 _ hR2 H.get1) rfl rfl rfl Tryd.call16 rfl rfl rfl ?_
          rintro _ w8 ⟨rfl, HC⟩
          have H := H.call0n HC
          refine tr_val (ov_move rfl rfl) rfl rfl rfl ?_
          refine tr_call (UsedR_c A2 c2 (doV W (gt L i)) _ (rdr_rd H.get0) (by omega) hR2.wf) rfl rfl rfl Tryd.call17 rfl rfl rfl ?_
          rintro _ w9 ⟨rfl, HC⟩
          have H := H.call0n HC
          refine tr_val (ov_neq rfl rfl rfl) rfl rfl rfl ?_
          refine tr_val (ov_pick_f (va := undef) rfl rfl rfl rfl) rfl rfl rfl ?_
          refine tr_nil (hK16 _ _ (TrC.keep [46, 4, 6, 20, 19, 18, 17, 3, 14, 0] ?_))
          show TrC _ _ _ _ [(46, _), (4, _), (6, _), (20, _), (19, _), (18, _), (17, _), (3, _), (14, _), (0, _)] _ _
          first | refine tr_cond rfl (fun c46 => ?_) (fun c46 => ?_) | refine tr_condb rfl (fun c46 => ?_) (fun c46 => ?_)
          · exact absurd rfl c46
          · skip
            refine tr_skip (hK12 _ _ (TrC.keep [46, 4, 6, 20, 19, 18, 17, 3, 14, 0] ?_))
            show TrC _ _ _ _ [(46, _), (4, _), (6, _), (20, _), (19, _), (18, _), (17, _), (3, _), (14, _), (0, _)] _ _
            -- region 12: law.go:97
            refine tr_region ?_
            refine tr_val (ov_add rfl rfl rfl (w64 (by omega))) rfl rfl rfl ?_
            refine tr_val (ov_move rfl rfl) rfl rfl rfl ?_
            skip
            exact tr_nil (hK9 (⟨i + 1, (doV W (gt L i)), A2, c2, R2⟩) _ _ (⟨by omega, by omega, by omega, hc2, hR2, H.drop2⟩) (by first | omega | (dsimp only; omega)) (Sub.cons rfl (Sub.cons rfl (Sub.cons rfl (Sub.cons rfl (Sub.cons rfl (Sub.cons rfl (Sub.cons rfl Sub.nil))))))))
    · skip
      refine tr_exit (hK7 _ _ (TrC.keep [20, 19, 4, 18, 17, 3, 14, 0] ?_))
      show TrC _ _ _ _ [(20, _), (19, _), (4, _), (18, _), (17, _), (3, _), (14, _), (0, _)] _ _
      refine tr_seq (fun K17 hK17 => ?_)
      refine tr_seq (fun K18 hK18 => ?_)
      -- region 13: law.go:104
      refine tr_region ?_
      refine tr_val (ov_move rfl rfl) rfl rfl rfl ?_
      refine tr_nil (hK18 _ _ (TrC.keep [48, 20, 19, 4, 18, 17, 3, 14, 0] ?_))
      show TrC _ _ _ _ [(48, _), (20, _), (19, _), (4, _), (18, _), (17, _), (3, _), (14, _), (0, _)] _ _
      refine tr_block ?_
      refine tr_loop_ (X := Int × List RThing × Option Addr × Nat × List Res) [20, 19, 18, 17, 3, 14, 0] (fun ⟨k, W, A1, c1, R⟩ => [(48, .int .i64 k), (4, .slice A1 W.length c1)]) (fun ⟨k, W, A1, c1, R⟩ w' => 0 ≤ k ∧ k ≤ 64 ∧ (∀ r, r ∈ W → k ≤ r.slot) ∧ W.length ≤ 200 ∧ RingL 54 27 d W R ∧ SH w noBlocks [rdr A1 4 (W.map encRThing), pack R] w') (fun ⟨k, W, A1, c1, R⟩ => (64 - k).toNat) (⟨0, W, A1, c1, R⟩) (Sub.cons rfl (Sub.cons rfl (Sub.cons rfl (Sub.cons rfl (Sub.cons rfl (Sub.cons rfl (Sub.cons rfl (Sub.cons rfl (Sub.cons rfl Sub.nil))))))))) (⟨by omega, by omega, fun r hr => (hRg.wf.slots r hr).1, by omega, hRg, H⟩) ?_
      rintro ⟨k, W, A1, c1, R⟩ w10 ⟨hk0, hk1, hks, hWl, hRg, H⟩ K19 hK19
      show TrC _ _ _ _ [(48, _), (4, _), (20, _), (19, _), (18, _), (17, _), (3, _), (14, _), (0, _)] _ _
      refine tr_seq (fun K20 hK20 => ?_)
      -- region 14: law.go:104
      refine tr_region ?_
      refine tr_val (ov_lss rfl rfl rfl) rfl rfl rfl ?_
      refine tr_nil (hK20 _ _ (TrC.keep [49, 48, 4, 20, 19, 18, 17, 3, 14, 0] ?_))
      show TrC _ _ _ _ [(49, _), (48, _), (4, _), (20, _), (19, _), (18, _), (17, _), (3, _), (14, _), (0, _)] _ _
      refine tr_seq (fun K21 hK21 => ?_)
      first | refine tr_cond rfl (fun c49 => ?_) (fun c49 => ?_) | refine tr_condb rfl (fun c49 => ?_) (fun c49 => ?_)
      · skip
        refine tr_skip (hK21 _ _ (TrC.keep [49, 48, 4, 20, 19, 18, 17, 3, 14, 0] ?_))
        show TrC _ _ _ _ [(49, _), (48, _), (4, _), (20, _), (19, _), (18, _), (17, _), (3, _), (14, _), (0, _)] _ _
        refine tr_seq (fun K22 hK22 => ?_)
        refine tr_block ?_
        refine tr_seq (fun K23 hK23 => ?_)
        -- region 15: law.go:104
        refine tr_region ?_
        refine tr_val (ov_move rfl rfl) rfl rfl rfl ?_
        refine tr_val (ov_assign rfl rfl) rfl rfl rfl ?_
        refine tr_nil (hK23 _ _ (TrC.keep [9, 49, 48, 4, 20, 19, 18, 17, 3, 14, 0] ?_))
        show TrC _ _ _ _ [(9, _), (49, _), (48, _), (4, _), (20, _), (19, _), (18, _), (17, _), (3, _), (14, _), (0, _)] _ _
        refine tr_seq (fun K24 hK24 => ?_)
        -- region 16: law.go:105
        refine tr_region ?_
        refine tr_val (ov_move rfl rfl) rfl rfl rfl ?_
        refine tr_val (ov_move rfl rfl) rfl rfl rfl ?_
        refine tr_call (TakeR_c A1 c1 W _ (rdr_rd H.get0) (by omega) k) rfl rfl rfl Tryd.call18 rfl rfl rfl ?_
        rintro _ w11 ⟨A3, c3, A2, c2, rfl, HC⟩
        have H := H.call0 HC
        refine tr_val (ov_move rfl rfl) rfl rfl rfl ?_
        refine tr_val (ov_extract rfl rfl rfl) rfl rfl rfl ?_
        refine tr_val (ov_extract rfl rfl rfl) rfl rfl rfl ?_
        refine tr_val (ov_assign rfl rfl) rfl rfl rfl ?_
        refine tr_val (ov_assign rfl rfl) rfl rfl rfl ?_
        refine tr_nil (hK24 _ _ (TrC.keep [11, 10, 9, 49, 48, 4, 20, 19, 18, 17, 3, 14, 0] ?_))
        show TrC _ _ _ _ [(11, _), (10, _), (9, _), (49, _), (48, _), (4, _), (20, _), (19, _), (18, _), (17, _), (3, _), (14, _), (0, _)] _ _
        refine tr_seq (fun K25 hK25 => ?_)
        -- region 17: law.go:106
        refine tr_region ?_
        refine tr_val (ov_move rfl rfl) rfl rfl rfl ?_
        refine tr_val (ov_assign rfl rfl) rfl rfl rfl ?_
        refine tr_nil (hK25 _ _ (TrC.keep [4, 11, 9, 49, 48, 20, 19, 18, 17, 3, 14, 0] ?_))
        show TrC _ _ _ _ [(4, _), (11, _), (9, _), (49, _), (48, _), (20, _), (19, _), (18, _), (17, _), (3, _), (14, _), (0, _)] _ _
        refine tr_seq (fun K26 hK26 => ?_)
        -- region 18: law.go:107
        refine tr_region ?_
        refine tr_val (ov_move rfl rfl) rfl rfl rfl ?_
        refine tr_val (ov_move rfl rfl) rfl rfl rfl ?_
        refine tr_call (ringTake_c d W R _ hRg H.get3 k (by omega)) rfl rfl rfl Tryd.call19 rfl rfl rfl ?_
        rintro _ w12 ⟨A4, c4, rfl, R2, hR2, HC⟩
        have H := H.top3.call1e HC
        have hq1 := takeR_le W k
        have hq2 := sortR_len (takeR W k)
        have hq3 := sortT_len (slotL W k)
        have hq4 := slotL_le W k
        refine tr_val (ov_move rfl rfl) rfl rfl rfl ?_
        refine tr_call (Same_c A4 c4 (sortT (slotL W k)) _ (vec_rd H.get0 lenThing (by decide)) (by omega) A2 c2 (sortR (takeR W k)) (vec_rd H.get2 lenRThing (by decide)) (by omega)) rfl rfl rfl Tryd.call11 rfl rfl rfl ?_
        rintro _ w13 ⟨rfl, HC⟩
        have H := H.call0n HC
        first | refine tr_val (ov_not rfl rfl) rfl rfl rfl ?_ | refine tr_val (ov_notb rfl rfl) rfl rfl rfl ?_
        refine tr_nil (hK26 _ _ (TrC.keep [63, 4, 9, 49, 48, 20, 19, 18, 17, 3, 14, 0] ?_))
        show TrC _ _ _ _ [(63, _), (4, _), (9, _), (49, _), (48, _), (20, _), (19, _), (18, _), (17, _), (3, _), (14, _), (0, _)] _ _
        first | refine tr_cond rfl (fun c63 => ?_) (fun c63 => ?_) | refine tr_condb rfl (fun c63 => ?_) (fun c63 => ?_)
        · exact absurd (takeR_plain W k).symm c63
        · skip
          refine tr_skip (hK22 _ _ (TrC.keep [63, 4, 9, 49, 48, 20, 19, 18, 17, 3, 14, 0] ?_))
          show TrC _ _ _ _ [(63, _), (4, _), (9, _), (49, _), (48, _), (20, _), (19, _), (18, _), (17, _), (3, _), (14, _), (0, _)] _ _
          -- region 20: law.go:104
          refine tr_region ?_
          refine tr_val (ov_add rfl rfl rfl (w64 (by omega))) rfl rfl rfl ?_
          refine tr_val (ov_move rfl rfl) rfl rfl rfl ?_
          have hll := leftR_le W k
          exact tr_nil (hK19 (⟨k + 1, (leftR W k), A3, c3, R2⟩) _ _ (⟨by omega, by omega, fun r hr => by have h1 := List.mem_filter.mp hr; have h2 := hks r h1.1; have h3 := h1.2; simp at h3; omega, by omega, hR2, (H.drop0.drop1.drop2.top1).upd0 (upd_rdr_of_vec H.get3 lenRThing (by decide))⟩) (by first | omega | (dsimp only; omega)) (Sub.cons rfl (Sub.cons rfl (Sub.cons rfl (Sub.cons rfl (Sub.cons rfl (Sub.cons rfl (Sub.cons rfl (Sub.cons rfl (Sub.cons rfl Sub.nil))))))))))
      · skip
        refine tr_exit (hK17 _ _ (TrC.keep [49, 48, 4, 20, 19, 18, 17, 3, 14, 0] ?_))
        show TrC _ _ _ _ [(49, _), (48, _), (4, _), (20, _), (19, _), (18, _), (17, _), (3, _), (14, _), (0, _)] _ _
        refine tr_seq (fun K27 hK27 => ?_)
        -- region 21: law.go:111
        have hW0 : W = [] := List.eq_nil_iff_forall_not_mem.mpr fun r hr => by have h1 := hks r hr; have h2 := hRg.wf.slots r hr; omega
        subst hW0
        refine tr_region ?_
        refine tr_val (ov_move rfl rfl) rfl rfl rfl ?_
        refine tr_call (ringLen_c d [] R _ hRg H.get1) rfl rfl rfl Tryd.call15 rfl rfl rfl ?_
        rintro _ w14 ⟨rfl, HC⟩
        have H := H.call0n HC
        refine tr_val (ov_eql rfl rfl rfl) rfl rfl rfl ?_
        refine tr_val (ov_move rfl rfl) rfl rfl rfl ?_
        first | refine tr_split (t := 68) rfl (fun s68 => ?_) (fun s68 => ?_) | refine tr_splitb (t := 68) rfl (fun s68 => ?_) (fun s68 => ?_)
        · skip
          refine tr_val (ov_move rfl rfl) rfl rfl rfl ?_
          refine tr_call (ringUsed_c d [] R _ hRg H.get1) rfl rfl rfl Tryd.call16 rfl rfl rfl ?_
          rintro _ w15 ⟨rfl, HC⟩
          have H := H.call0n HC
          refine tr_val (ov_eql rfl rfl rfl) rfl rfl rfl ?_
          refine tr_val (ov_pick (vb := undef) rfl rfl rfl rfl) rfl rfl rfl ?_
          refine tr_val (ov_move rfl rfl) rfl rfl rfl ?_
          first | refine tr_split (t := 73) rfl (fun s73 => ?_) (fun s73 => ?_) | refine tr_splitb (t := 73) rfl (fun s73 => ?_) (fun s73 => ?_)
          · skip
            refine tr_call (lives11_c _ (H.res0 hT)) rfl rfl rfl Tryd.call6 rfl rfl rfl ?_
            rintro _ w16 ⟨rfl, HC⟩
            have H := H.call0n HC
            refine tr_val (ov_pick (vb := undef) rfl rfl rfl rfl) rfl rfl rfl ?_
            refine tr_val (ov_assign rfl rfl) rfl rfl rfl ?_
            refine tr_nil (hK27 _ _ (TrC.keep [2, 49, 48, 4, 20, 19, 18, 17, 3, 14, 0] ?_))
            show TrC _ _ _ _ [(2, _), (49, _), (48, _), (4, _), (20, _), (19, _), (18, _), (17, _), (3, _), (14, _), (0, _)] _ _
            refine tr_ret (post_ret1 (.inr rfl) rfl rfl ?_)
            exact ⟨rfl, H.drop0.drop0⟩
          · first | exact absurd rfl s73 | cases s73 | exact absurd s73 (by decide)
        · first | exact absurd rfl s68 | cases s68 | exact absurd s68 (by decide)

theorem snoc_plain {L : List Thing} {i : Int} (h0 : 0 ≤ i) (h1 : i < L.length) : ((L.take i.toNat).map (toR · 0)) ++ [toR (gt L i) 0] = ((L.take (i + 1).toNat).map (toR · 0)) := by rw [take_gt h0 h1]; simp

/-! curfew/curfewlaw11.SlotsSort -/
set_option maxRecDepth 20000 in
theorem SlotsSort_c (B : Option Addr) (c : Nat) (L : List Thing) (w : World) (hR : Rd w B 3 (L.map encThing)) (hT : tabR.holds w) : Does Tryd.prog 3 #[.slice B L.length c] w (fun v w' => v = .bool true ∧ SH w noBlocks [] w') := by
  refine does_enter1 Tryd.func3 rfl Tryd.ntmps3 rfl ?_
  have H := SH.start w noBlocks
  refine tr_seq (fun K1 hK1 => ?_)
  -- region 0: law.go:38
  refine tr_region ?_
  refine tr_val (ov_assign rfl rfl) rfl rfl rfl ?_
  refine tr_nil (hK1 _ _ (TrC.keep [2, 0] ?_))
  show TrC _ _ _ _ [(2, _), (0, _)] _ _
  refine tr_seq (fun K2 hK2 => ?_)
  refine tr_seq (fun K3 hK3 => ?_)
  -- region 1: law.go:39
  refine tr_region ?_
  refine tr_val (ov_move rfl rfl) rfl rfl rfl ?_
  refine tr_val (ov_len rfl rfl Tryd.underlying22 rfl) rfl rfl rfl ?_
  refine tr_val (ov_gtr rfl rfl rfl) rfl rfl rfl ?_
  refine tr_nil (hK3 _ _ (TrC.keep [9, 2, 0] ?_))
  show TrC _ _ _ _ [(9, _), (2, _), (0, _)] _ _
  first | refine tr_cond rfl (fun c9 => ?_) (fun c9 => ?_) | refine tr_condb rfl (fun c9 => ?_) (fun c9 => ?_)
  · skip
    refine tr_seq (fun K4 hK4 => ?_)
    -- region 2: law.go:40
    refine tr_region ?_
    refine tr_call (lives11_c _ (H.res0 hT)) rfl rfl rfl Tryd.call6 rfl rfl rfl ?_
    rintro _ w1 ⟨rfl, HC⟩
    have H := H.call0n HC
    refine tr_val (ov_assign rfl rfl) rfl rfl rfl ?_
    refine tr_nil (hK4 _ _ (TrC.keep [2, 9, 0] ?_))
    show TrC _ _ _ _ [(2, _), (9, _), (0, _)] _ _
    refine tr_ret (post_ret1 (.inr rfl) rfl rfl ?_)
    exact ⟨rfl, H⟩
  · skip
    refine tr_skip (hK2 _ _ (TrC.keep [9, 2, 0] ?_))
    show TrC _ _ _ _ [(9, _), (2, _), (0, _)] _ _
    refine tr_seq (fun K5 hK5 => ?_)
    -- region 3: law.go:42
    refine tr_region ?_
    refine tr_val (ov_assign rfl rfl) rfl rfl rfl ?_
    refine tr_nil (hK5 _ _ (TrC.keep [3, 9, 2, 0] ?_))
    show TrC _ _ _ _ [(3, _), (9, _), (2, _), (0, _)] _ _
    refine tr_seq (fun K6 hK6 => ?_)
    refine tr_seq (fun K7 hK7 => ?_)
    -- region 4: law.go:43
    have H := H.addNil 29 4 encRThing
    refine tr_region ?_
    refine tr_val (ov_move rfl rfl) rfl rfl rfl ?_
    refine tr_val (ov_len rfl rfl Tryd.underlying22 rfl) rfl rfl rfl ?_
    refine tr_val (ov_move rfl rfl) rfl rfl rfl ?_
    refine tr_nil (hK7 _ _ (TrC.keep [13, 12, 11, 3, 9, 2, 0] ?_))
    show TrC _ _ _ _ [(13, _), (12, _), (11, _), (3, _), (9, _), (2, _), (0, _)] _ _
    refine tr_block ?_
    refine tr_loop_ (X := Int × Option Addr × Nat) [12, 11, 9, 0] (fun ⟨i, A1, c1⟩ => [(13, .int .i64 i), (3, .slice A1 ((L.take i.toNat).map (toR · 0)).length c1)]) (fun ⟨i, A1, c1⟩ w' => 0 ≤ i ∧ i ≤ L.length ∧ SH w noBlocks [vec A1 c1 29 4 encRThing ((L.take i.toNat).map (toR · 0))] w') (fun ⟨i, A1, c1⟩ => (L.length - i).toNat) (⟨0, none, 0⟩) (Sub.cons rfl (Sub.cons rfl (Sub.cons rfl (Sub.cons rfl (Sub.cons rfl (Sub.cons rfl Sub.nil)))))) (⟨by omega, by omega, H⟩) ?_
    rintro ⟨i, A1, c1⟩ w2 ⟨hi0, hi1, H⟩ K8 hK8
    show TrC _ _ _ _ [(13, _), (3, _), (12, _), (11, _), (9, _), (0, _)] _ _
    refine tr_seq (fun K9 hK9 => ?_)
    -- region 5: law.go:43
    refine tr_region ?_
    refine tr_val (ov_lss rfl rfl rfl) rfl rfl rfl ?_
    refine tr_nil (hK9 _ _ (TrC.keep [14, 13, 3, 12, 11, 9, 0] ?_))
    show TrC _ _ _ _ [(14, _), (13, _), (3, _), (12, _), (11, _), (9, _), (0, _)] _ _
    refine tr_seq (fun K10 hK10 => ?_)
    first | refine tr_cond rfl (fun c14 => ?_) (fun c14 => ?_) | refine tr_condb rfl (fun c14 => ?_) (fun c14 => ?_)
    · skip
      refine tr_skip (hK10 _ _ (TrC.keep [14, 13, 3, 12, 11, 9, 0] ?_))
      show TrC _ _ _ _ [(14, _), (13, _), (3, _), (12, _), (11, _), (9, _), (0, _)] _ _
      refine tr_seq (fun K11 hK11 => ?_)
      refine tr_block ?_
      refine tr_seq (fun K12 hK12 => ?_)
      -- region 6: law.go:43
      refine tr_region ?_
      refine tr_val (ov_move rfl rfl) rfl rfl rfl ?_
      refine tr_val (ov_indexAddrR (H.rd0 hR) rfl Tryd.underlying22 (Tryd.sizeOf27 _) rfl rfl (by omega) (by omega)) rfl rfl rfl ?_
      refine tr_val (ld_Thing (H.rd0 hR) rfl (Tryd.isAgg27 _) (Tryd.sizeOf27 _) rfl (by omega) (by omega)) rfl rfl rfl ?_
      refine tr_alloc H rfl (Tryd.zeroValue27 _) rfl rfl rfl rfl ?_
      intro b1 w3 hb1 H
      refine tr_val (ov_assign rfl rfl) rfl rfl rfl ?_
      first | (refine tr_storeW H.get0 rfl (Tryd.sizeOf27 _) rfl rfl rfl rfl rfl rfl rfl rfl ?_; intro w4 U; have H := H.upd0 U; clear U) | (refine tr_storeW H.get1 rfl (Tryd.sizeOf27 _) rfl rfl rfl rfl rfl rfl rfl rfl ?_; intro w4 U; have H := H.upd1 U; clear U) | (refine tr_storeW H.get2 rfl (Tryd.sizeOf27 _) rfl rfl rfl rfl rfl rfl rfl rfl ?_; intro w4 U; have H := H.upd2 U; clear U) | (refine tr_storeW H.get3 rfl (Tryd.sizeOf27 _) rfl rfl rfl rfl rfl rfl rfl rfl ?_; intro w4 U; have H := H.upd3 U; clear U) | (refine tr_storeW H.get4 rfl (Tryd.sizeOf27 _) rfl rfl rfl rfl rfl rfl rfl rfl ?_; intro w4 U; have H := H.upd4 U; clear U) | (refine tr_storeW H.get5 rfl (Tryd.sizeOf27 _) rfl rfl rfl rfl rfl rfl rfl rfl ?_; intro w4 U; have H := H.upd5 U; clear U)
      refine tr_nil (hK12 _ _ (TrC.keep [4, 5, 14, 13, 3, 12, 11, 9, 0] ?_))
      show TrC _ _ _ _ [(4, _), (5, _), (14, _), (13, _), (3, _), (12, _), (11, _), (9, _), (0, _)] _ _
      refine tr_seq (fun K13 hK13 => ?_)
      -- region 7: law.go:44
      have hl0 := takeN (L := L) hi0 (by omega)
      refine tr_region ?_
      refine tr_val (ov_move rfl rfl) rfl rfl rfl ?_
      first | refine tr_val (ov_load_blkN H.get0 rfl (Tryd.isAgg27 _) (Tryd.sizeOf27 _) rfl rfl rfl) rfl rfl rfl ?_ | refine tr_val (ov_load_blkN H.get1 rfl (Tryd.isAgg27 _) (Tryd.sizeOf27 _) rfl rfl rfl) rfl rfl rfl ?_ | refine tr_val (ov_load_blkN H.get2 rfl (Tryd.isAgg27 _) (Tryd.sizeOf27 _) rfl rfl rfl) rfl rfl rfl ?_ | refine tr_val (ov_load_blkN H.get3 rfl (Tryd.isAgg27 _) (Tryd.sizeOf27 _) rfl rfl rfl) rfl rfl rfl ?_ | refine tr_val (ov_load_blkN H.get4 rfl (Tryd.isAgg27 _) (Tryd.sizeOf27 _) rfl rfl rfl) rfl rfl rfl ?_ | refine tr_val (ov_load_blkN H.get5 rfl (Tryd.isAgg27 _) (Tryd.sizeOf27 _) rfl rfl rfl) rfl rfl rfl ?_
      refine tr_call (Plain_c (gt L i) _) rfl rfl rfl Tryd.call7 rfl rfl rfl ?_
      rintro _ w5 ⟨rfl, HC⟩
      have H := H.call0n HC
      refine tr_buildSlice H rfl Tryd.underlying24 info29 rfl (fun ρ k => bs1 k rfl) (by decide) (by decide) (fill_RThing_1 _ _ _ _) rfl rfl rfl ?_
      intro b9 wb90 hb9 H
      refine tr_append (M := [toR (gt L i) 0]) H.get2 (rd_blk [toR (gt L i) 0] H.get0 rfl lenRThing) rfl rfl rfl Tryd.underlying24 info29 rfl rfl (show Tryd.t29.bytes = 32 from rfl) rfl (by decide) lenRThing oneRThing (by rw [List.length_map, List.length_singleton]; omega) (by rw [List.length_map, List.length_singleton]; unfold maxLen; omega) rfl rfl rfl ?_
      intro A3 c3 w30 U; have H := H.upd2 U; clear U
      have H := H.drop0
      rw [snoc_plain hi0 (by omega)] at H ⊢
      refine tr_val (ov_assign rfl rfl) rfl rfl rfl ?_
      refine tr_nil (hK13 _ _ (TrC.keep [3, 4, 5, 14, 13, 12, 11, 9, 0] ?_))
      show TrC _ _ _ _ [(3, _), (4, _), (5, _), (14, _), (13, _), (12, _), (11, _), (9, _), (0, _)] _ _
      refine tr_seq (fun K14 hK14 => ?_)
      -- region 8: law.go:45
      have hml : ((L.take (i + 1).toNat).map (toR · 0)).length = (i + 1).toNat := by rw [List.length_map, takeN (by omega) (by omega)]
      have hgm : ∀ k : Int, 0 ≤ k → k < i + 1 → gt ((L.take (i + 1).toNat).map (toR · 0)) k = toR (gt L k) 0 := fun k h0 h1 => by rw [gt_map (toR · 0) h0 (by rw [takeN (by omega) (by omega)]; omega), gt_take h0 h1 (by omega)]
      refine tr_quiet mixed (by kernel_rfl) H ?_
      refine tq_val (fun _ H => ov_move rfl rfl) rfl rfl rfl ?_
      refine tq_val (fun _ H => ov_gtr rfl rfl rfl) rfl rfl rfl ?_
      refine tq_val (fun _ H => ov_move rfl rfl) rfl rfl rfl ?_
      first | refine tq_split (t := 25) rfl (fun s25 => ?_) (fun s25 => ?_) | refine tq_splitb (t := 25) rfl (fun s25 => ?_) (fun s25 => ?_)
      · skip
        refine tq_val (fun _ H => ov_move rfl rfl) rfl rfl rfl ?_
        refine tq_val (fun _ H => ov_move rfl rfl) rfl rfl rfl ?_
        refine tq_val (fun _ H => ov_sub rfl rfl rfl (w64 (by omega))) rfl rfl rfl ?_
        refine tq_val (fun _ H => ov_indexAddrR (H.rd0 hR) rfl Tryd.underlying22 (Tryd.sizeOf27 _) rfl rfl (by omega) (by omega)) rfl rfl rfl ?_
        refine tq_val (fun _ H => ld_Thing (H.rd0 hR) rfl (Tryd.isAgg27 _) (Tryd.sizeOf27 _) rfl (by omega) (by omega)) rfl rfl rfl ?_
        first | refine tq_val (fun _ H => ov_load_blkN H.get0 rfl (Tryd.isAgg27 _) (Tryd.sizeOf27 _) rfl rfl rfl) rfl rfl rfl ?_ | refine tq_val (fun _ H => ov_load_blkN H.get1 rfl (Tryd.isAgg27 _) (Tryd.sizeOf27 _) rfl rfl rfl) rfl rfl rfl ?_ | refine tq_val (fun _ H => ov_load_blkN H.get2 rfl (Tryd.isAgg27 _) (Tryd.sizeOf27 _) rfl rfl rfl) rfl rfl rfl ?_ | refine tq_val (fun _ H => ov_load_blkN H.get3 rfl (Tryd.isAgg27 _) (Tryd.sizeOf27 _) rfl rfl rfl) rfl rfl rfl ?_ | refine tq_val (fun _ H => ov_load_blkN H.get4 rfl (Tryd.isAgg27 _) (Tryd.sizeOf27 _) rfl rfl rfl) rfl rfl rfl ?_ | refine tq_val (fun _ H => ov_load_blkN H.get5 rfl (Tryd.isAgg27 _) (Tryd.sizeOf27 _) rfl rfl rfl) rfl rfl rfl ?_
        refine tq_call (fun _ H => (BeforeT_c (gt L (i - 1)) (gt L i) _).mono (fun _ _ hq => ⟨hq.1, H.call0n hq.2⟩)) rfl rfl rfl Tryd.call8 rfl rfl rfl ?_
        refine tq_val (fun _ H => ov_move rfl rfl) rfl rfl rfl ?_
        refine tq_val (fun _ H => ov_move rfl rfl) rfl rfl rfl ?_
        refine tq_val (fun _ H => ov_sub rfl rfl rfl (w64 (by omega))) rfl rfl rfl ?_
        refine tq_val (fun _ H => ov_indexAddrR (vec_rd H.get1 lenRThing (by decide)) rfl Tryd.underlying24 (Tryd.sizeOf29 _) rfl rfl (by omega) (by omega)) rfl rfl rfl ?_
        refine tq_val (fun _ H => ov_eq (ld_RThing (i := i - 1) (vec_rd H.get1 lenRThing (by decide)) rfl (Tryd.isAgg29 _) (Tryd.sizeOf29 _) rfl (by omega) (by omega)) (show _ = Value.agg #[.int .u64 (toR (gt L (i - 1)) 0).id, .int .u64 (toR (gt L (i - 1)) 0).gen, .int .i64 (toR (gt L (i - 1)) 0).due, .int .i64 (toR (gt L (i - 1)) 0).slot] by rw [hgm (i - 1) (by omega) (by omega)])) rfl rfl rfl ?_
        refine tq_val (fun _ H => ov_move rfl rfl) rfl rfl rfl ?_
        refine tq_val (fun _ H => ov_move rfl rfl) rfl rfl rfl ?_
        refine tq_val (fun _ H => ov_indexAddrR (vec_rd H.get1 lenRThing (by decide)) rfl Tryd.underlying24 (Tryd.sizeOf29 _) rfl rfl (by omega) (by omega)) rfl rfl rfl ?_
        refine tq_val (fun _ H => ov_eq (ld_RThing (i := i) (vec_rd H.get1 lenRThing (by decide)) rfl (Tryd.isAgg29 _) (Tryd.sizeOf29 _) rfl (by omega) (by omega)) (show _ = Value.agg #[.int .u64 (toR (gt L (i)) 0).id, .int .u64 (toR (gt L (i)) 0).gen, .int .i64 (toR (gt L (i)) 0).due, .int .i64 (toR (gt L (i)) 0).slot] by rw [hgm (i) (by omega) (by omega)])) rfl rfl rfl ?_
        refine tq_call (fun _ H => (BeforeR_c (toR (gt L (i - 1)) 0) (toR (gt L i) 0) _).mono (fun _ _ hq => ⟨hq.1, H.call0n hq.2⟩)) rfl rfl rfl Tryd.call9 rfl rfl rfl ?_
        refine tq_val (fun _ H => ov_neqb rfl Tryd.underlying4 rfl rfl) rfl rfl rfl ?_
        refine tq_val (fun _ H => ov_move rfl rfl) rfl rfl rfl ?_
        first | refine tq_split (t := 44) rfl (fun s44 => ?_) (fun s44 => ?_) | refine tq_splitb (t := 44) rfl (fun s44 => ?_) (fun s44 => ?_)
        · exact absurd s44 (by intro s; have e1 : decide (ltR (toR (gt L (i - 1)) 0) (toR (gt L i) 0)) = decide (ltT (gt L (i - 1)) (gt L i)) := rfl; have e2 : decide (ltR (toR (gt L i) 0) (toR (gt L (i - 1)) 0)) = decide (ltT (gt L i) (gt L (i - 1))) := rfl; simp [e1, e2] at s)
        · skip
          first | refine tq_val (fun _ H => ov_load_blkN H.get0 rfl (Tryd.isAgg27 _) (Tryd.sizeOf27 _) rfl rfl rfl) rfl rfl rfl ?_ | refine tq_val (fun _ H => ov_load_blkN H.get1 rfl (Tryd.isAgg27 _) (Tryd.sizeOf27 _) rfl rfl rfl) rfl rfl rfl ?_ | refine tq_val (fun _ H => ov_load_blkN H.get2 rfl (Tryd.isAgg27 _) (Tryd.sizeOf27 _) rfl rfl rfl) rfl rfl rfl ?_ | refine tq_val (fun _ H => ov_load_blkN H.get3 rfl (Tryd.isAgg27 _) (Tryd.sizeOf27 _) rfl rfl rfl) rfl rfl rfl ?_ | refine tq_val (fun _ H => ov_load_blkN H.get4 rfl (Tryd.isAgg27 _) (Tryd.sizeOf27 _) rfl rfl rfl) rfl rfl rfl ?_ | refine tq_val (fun _ H => ov_load_blkN H.get5 rfl (Tryd.isAgg27 _) (Tryd.sizeOf27 _) rfl rfl rfl) rfl rfl rfl ?_
          refine tq_val (fun _ H => ov_move rfl rfl) rfl rfl rfl ?_
          refine tq_val (fun _ H => ov_move rfl rfl) rfl rfl rfl ?_
          refine tq_val (fun _ H => ov_sub rfl rfl rfl (w64 (by omega))) rfl rfl rfl ?_
          refine tq_val (fun _ H => ov_indexAddrR (H.rd0 hR) rfl Tryd.underlying22 (Tryd.sizeOf27 _) rfl rfl (by omega) (by omega)) rfl rfl rfl ?_
          refine tq_val (fun _ H => ld_Thing (H.rd0 hR) rfl (Tryd.isAgg27 _) (Tryd.sizeOf27 _) rfl (by omega) (by omega)) rfl rfl rfl ?_
          refine tq_call (fun _ H => (BeforeT_c (gt L i) (gt L (i - 1)) _).mono (fun _ _ hq => ⟨hq.1, H.call0n hq.2⟩)) rfl rfl rfl Tryd.call8 rfl rfl rfl ?_
          refine tq_val (fun _ H => ov_move rfl rfl) rfl rfl rfl ?_
          refine tq_val (fun _ H => ov_move rfl rfl) rfl rfl rfl ?_
          refine tq_val (fun _ H => ov_indexAddrR (vec_rd H.get1 lenRThing (by decide)) rfl Tryd.underlying24 (Tryd.sizeOf29 _) rfl rfl (by omega) (by omega)) rfl rfl rfl ?_
          refine tq_val (fun _ H => ov_eq (ld_RThing (i := i) (vec_rd H.get1 lenRThing (by decide)) rfl (Tryd.isAgg29 _) (Tryd.sizeOf29 _) rfl (by omega) (by omega)) (show _ = Value.agg #[.int .u64 (toR (gt L (i)) 0).id, .int .u64 (toR (gt L (i)) 0).gen, .int .i64 (toR (gt L (i)) 0).due, .int .i64 (toR (gt L (i)) 0).slot] by rw [hgm (i) (by omega) (by omega)])) rfl rfl rfl ?_
          refine tq_val (fun _ H => ov_move rfl rfl) rfl rfl rfl ?_
          refine tq_val (fun _ H => ov_move rfl rfl) rfl rfl rfl ?_
          refine tq_val (fun _ H => ov_sub rfl rfl rfl (w64 (by omega))) rfl rfl rfl ?_
          refine tq_val (fun _ H => ov_indexAddrR (vec_rd H.get1 lenRThing (by decide)) rfl Tryd.underlying24 (Tryd.sizeOf29 _) rfl rfl (by omega) (by omega)) rfl rfl rfl ?_
          refine tq_val (fun _ H => ov_eq (ld_RThing (i := i - 1) (vec_rd H.get1 lenRThing (by decide)) rfl (Tryd.isAgg29 _) (Tryd.sizeOf29 _) rfl (by omega) (by omega)) (show _ = Value.agg #[.int .u64 (toR (gt L (i - 1)) 0).id, .int .u64 (toR (gt L (i - 1)) 0).gen, .int .i64 (toR (gt L (i - 1)) 0).due, .int .i64 (toR (gt L (i - 1)) 0).slot] by rw [hgm (i - 1) (by omega) (by omega)])) rfl rfl rfl ?_
          refine tq_call (fun _ H => (BeforeR_c (toR (gt L i) 0) (toR (gt L (i - 1)) 0) _).mono (fun _ _ hq => ⟨hq.1, H.call0n hq.2⟩)) rfl rfl rfl Tryd.call9 rfl rfl rfl ?_
          refine tq_val (fun _ H => ov_neqb rfl Tryd.underlying4 rfl rfl) rfl rfl rfl ?_
          refine tq_val (fun _ H => ov_pick_f (va := undef) rfl rfl rfl rfl) rfl rfl rfl ?_
          refine tq_val (fun _ H => ov_pick (vb := undef) rfl rfl rfl rfl) rfl rfl rfl ?_
          refine tq_nil ?_
          intro w6 H
          refine hK14 _ _ (TrC.keep [64, 3, 4, 5, 14, 13, 12, 11, 9, 0] ?_)
          show TrC _ _ _ _ [(64, _), (3, _), (4, _), (5, _), (14, _), (13, _), (12, _), (11, _), (9, _), (0, _)] _ _
          first | refine tr_cond rfl (fun c64 => ?_) (fun c64 => ?_) | refine tr_condb rfl (fun c64 => ?_) (fun c64 => ?_)
          · exact absurd c64 (by intro s; have e1 : decide (ltR (toR (gt L (i - 1)) 0) (toR (gt L i) 0)) = decide (ltT (gt L (i - 1)) (gt L i)) := rfl; have e2 : decide (ltR (toR (gt L i) 0) (toR (gt L (i - 1)) 0)) = decide (ltT (gt L i) (gt L (i - 1))) := rfl; simp [e1, e2] at s)
          · skip
            refine tr_skip (hK11 _ _ (TrC.keep [64, 3, 4, 5, 14, 13, 12, 11, 9, 0] ?_))
            show TrC _ _ _ _ [(64, _), (3, _), (4, _), (5, _), (14, _), (13, _), (12, _), (11, _), (9, _), (0, _)] _ _
            -- region 10: law.go:43
            refine tr_region ?_
            refine tr_val (ov_add rfl rfl rfl (w64 (by omega))) rfl rfl rfl ?_
            refine tr_val (ov_move rfl rfl) rfl rfl rfl ?_
            skip
            exact tr_nil (hK8 (⟨i + 1, A3, c3⟩) _ _ (⟨by omega, by omega, H.drop0⟩) (by first | omega | (dsimp only; omega)) (Sub.cons rfl (Sub.cons rfl (Sub.cons rfl (Sub.cons rfl (Sub.cons rfl (Sub.cons rfl Sub.nil)))))))
      · skip
        refine tq_pass rfl rfl rfl ?_
        refine tq_pass rfl rfl rfl ?_
        refine tq_pass rfl rfl rfl ?_
        refine tq_pass rfl rfl rfl ?_
        refine tq_pass rfl rfl rfl ?_
        refine tq_pass rfl rfl rfl ?_
        refine tq_pass rfl rfl rfl ?_
        refine tq_pass rfl rfl rfl ?_
        refine tq_pass rfl rfl rfl ?_
        refine tq_pass rfl rfl rfl ?_
        refine tq_pass rfl rfl rfl ?_
        refine tq_pass rfl rfl rfl ?_
        refine tq_pass rfl rfl rfl ?_
        refine tq_pass rfl rfl rfl ?_
        refine tq_pass rfl rfl rfl ?_
        refine tq_pass rfl rfl rfl ?_
        refine tq_pass rfl rfl rfl ?_
        refine tq_pass rfl rfl rfl ?_
        refine tq_pass rfl rfl rfl ?_
        refine tq_pass rfl rfl rfl ?_
        refine tq_pass rfl rfl rfl ?_
        refine tq_pass rfl rfl rfl ?_
        refine tq_pass rfl rfl rfl ?_
        refine tq_pass rfl rfl rfl ?_
        refine tq_pass rfl rfl rfl ?_
        refine tq_pass rfl rfl rfl ?_
        refine tq_pass rfl rfl rfl ?_
        refine tq_pass rfl rfl rfl ?_
        refine tq_pass rfl rfl rfl ?_
        refine tq_pass rfl rfl rfl ?_
        refine tq_pass rfl rfl rfl ?_
        refine tq_pass rfl rfl rfl ?_
        refine tq_pass rfl rfl rfl ?_
        refine tq_pass rfl rfl rfl ?_
        refine tq_pass rfl rfl rfl ?_
        refine tq_pass rfl rfl rfl ?_
        refine tq_pass rfl rfl rfl ?_
        refine tq_pass rfl rfl rfl ?_
        refine tq_val (fun _ H => ov_pick_f (va := undef) rfl rfl rfl rfl) rfl rfl rfl ?_
        refine tq_nil ?_
        intro w7 H
        refine hK14 _ _ (TrC.keep [64, 3, 4, 5, 14, 13, 12, 11, 9, 0] ?_)
        show TrC _ _ _ _ [(64, _), (3, _), (4, _), (5, _), (14, _), (13, _), (12, _), (11, _), (9, _), (0, _)] _ _
        refine tr_cond_f rfl rfl ?_
        refine tr_skip (hK11 _ _ (TrC.keep [64, 3, 4, 5, 14, 13, 12, 11, 9, 0] ?_))
        show TrC _ _ _ _ [(64, _), (3, _), (4, _), (5, _), (14, _), (13, _), (12, _), (11, _), (9, _), (0, _)] _ _
        -- region 10: law.go:43
        refine tr_region ?_
        refine tr_val (ov_add rfl rfl rfl (w64 (by omega))) rfl rfl rfl ?_
        refine tr_val (ov_move rfl rfl) rfl rfl rfl ?_
        skip
        exact tr_nil (hK8 (⟨i + 1, A3, c3⟩) _ _ (⟨by omega, by omega, H.drop0⟩) (by first | omega | (dsimp only; omega)) (Sub.cons rfl (Sub.cons rfl (Sub.cons rfl (Sub.cons rfl (Sub.cons rfl (Sub.cons rfl Sub.nil)))))))
    · skip
      refine tr_exit (hK6 _ _ (TrC.keep [14, 13, 3, 12, 11, 9, 0] ?_))
      show TrC _ _ _ _ [(14, _), (13, _), (3, _), (12, _), (11, _), (9, _), (0, _)] _ _
      refine tr_seq (fun K15 hK15 => ?_)
      -- region 11: law.go:49
      have eL : L.take i.toNat = L := List.take_of_length_le (by omega)
      rw [eL] at H ⊢
      refine tr_region ?_
      refine tr_buildSlice0 H rfl Tryd.underlying22 info27 rfl rfl rfl ?_
      intro b11 w111 hb11 H
      have H := H.upd0 (upd_vec_of_blk (L := ([] : List Thing)) (enc := encThing) (sz := 3) H.get0 rfl lenThing (by simp))
      refine tr_val (ov_move rfl rfl) rfl rfl rfl ?_
      refine tr_append (M := L) H.get0 (H.rd0 hR) rfl rfl rfl Tryd.underlying22 info27 rfl rfl (show Tryd.t27.bytes = 24 from rfl) rfl (by decide) lenThing oneThing (by rw [List.length_nil]; omega) (by rw [List.length_nil]; unfold maxLen; omega) rfl rfl rfl ?_
      intro A4 c4 w40 U; have H := H.upd0 U; clear U
      rw [List.nil_append] at H ⊢
      refine tr_val (ov_assign rfl rfl) rfl rfl rfl ?_
      refine tr_nil (hK15 _ _ (TrC.keep [6, 14, 13, 3, 12, 11, 9, 0] ?_))
      show TrC _ _ _ _ [(6, _), (14, _), (13, _), (3, _), (12, _), (11, _), (9, _), (0, _)] _ _
      refine tr_seq (fun K16 hK16 => ?_)
      -- region 12: law.go:50
      refine tr_region ?_
      refine tr_val (ov_move rfl rfl) rfl rfl rfl ?_
      refine tr_call (Sort_c A4 c4 L _ H.get0 (by omega)) rfl rfl rfl Tryd.call10 rfl rfl rfl ?_
      rintro _ w8 HC
      have H := H.call1 HC
      have hsl := sortT_len L
      rw [← hsl]
      refine tr_nil (hK16 _ _ (TrC.keep [6, 14, 13, 3, 12, 11, 9, 0] ?_))
      show TrC _ _ _ _ [(6, _), (14, _), (13, _), (3, _), (12, _), (11, _), (9, _), (0, _)] _ _
      refine tr_seq (fun K17 hK17 => ?_)
      -- region 13: law.go:51
      refine tr_region ?_
      refine tr_val (ov_move rfl rfl) rfl rfl rfl ?_
      refine tr_val (ov_move rfl rfl) rfl rfl rfl ?_
      refine tr_call (SortedR_c A1 c1 (L.map (toR · 0)) _ (vec_rd H.get1 lenRThing (by decide)) (by rw [List.length_map]; omega)) rfl rfl rfl Tryd.call12 rfl rfl rfl ?_
      rintro _ w9 ⟨A5, c5, rfl, HC⟩
      have H := H.call0r HC
      refine tr_call (Same_c A4 c4 (sortT L) _ (vec_rd H.get1 lenThing (by decide)) (by omega) A5 c5 (sortR (L.map (toR · 0))) (vec_rd H.get0 lenRThing (by decide)) (by rw [sortR_len, List.length_map]; omega)) rfl rfl rfl Tryd.call11 rfl rfl rfl ?_
      rintro _ w10 ⟨rfl, HC⟩
      have H := H.call0n HC
      refine tr_val (ov_move rfl rfl) rfl rfl rfl ?_
      first | refine tr_split (t := 75) rfl (fun s75 => ?_) (fun s75 => ?_) | refine tr_splitb (t := 75) rfl (fun s75 => ?_) (fun s75 => ?_)
      · skip
        refine tr_call (lives11_c _ (H.res0 hT)) rfl rfl rfl Tryd.call6 rfl rfl rfl ?_
        rintro _ w11 ⟨rfl, HC⟩
        have H := H.call0n HC
        refine tr_val (ov_pick (vb := undef) rfl rfl rfl rfl) rfl rfl rfl ?_
        refine tr_val (ov_assign rfl rfl) rfl rfl rfl ?_
        refine tr_nil (hK17 _ _ (TrC.keep [2, 6, 14, 13, 3, 12, 11, 9, 0] ?_))
        show TrC _ _ _ _ [(2, _), (6, _), (14, _), (13, _), (3, _), (12, _), (11, _), (9, _), (0, _)] _ _
        refine tr_ret (post_ret1 (.inr rfl) rfl rfl ?_)
        exact ⟨rfl, H.drop0.drop0.drop0⟩
      · exact absurd (sort_plain L) s75

theorem nobody_ring {b : Nat} {w : World} (h : (blk b 54 [.slice none 0 0, .slice none 0 0, .slice none 0 0, .slice none 0 0, .slice none 0 0, .slice none 0 0, .slice none 0 0, .slice none 0 0, .slice none 0 0, .slice none 0 0, .slice none 0 0, .slice none 0 0, .slice none 0 0, .slice none 0 0, .slice none 0 0, .slice none 0 0, .slice none 0 0, .slice none 0 0, .slice none 0 0, .slice none 0 0, .slice none 0 0, .slice none 0 0, .slice none 0 0, .slice none 0 0, .slice none 0 0, .slice none 0 0, .slice none 0 0, .slice none 0 0, .slice none 0 0, .slice none 0 0, .slice none 0 0, .slice none 0 0, .slice none 0 0, .slice none 0 0, .slice none 0 0, .slice none 0 0, .slice none 0 0, .slice none 0 0, .slice none 0 0, .slice none 0 0, .slice none 0 0, .slice none 0 0, .slice none 0 0, .slice none 0 0, .slice none 0 0, .slice none 0 0, .slice none 0 0, .slice none 0 0, .slice none 0 0, .slice none 0 0, .slice none 0 0, .slice none 0 0, .slice none 0 0, .slice none 0 0, .slice none 0 0, .slice none 0 0, .slice none 0 0, .slice none 0 0, .slice none 0 0, .slice none 0 0, .slice none 0 0, .slice none 0 0, .slice none 0 0, .slice none 0 0, .int .u64 0, .map none]).holds w) : NoRing w (some ⟨b, 0, none⟩) :=
  .inr ⟨b, List.replicate 64 (.slice none 0 0), 0, rfl, by decide, h⟩

/-! curfew/curfewlaw11.SlotsNobody -/
set_option maxRecDepth 20000 in
theorem SlotsNobody_c (s : Int) (t : Thing) (w : World) (hT : tabR.holds w) : Does Tryd.prog 5 #[.int .i64 s, .agg #[.int .u64 t.id, .int .u64 t.gen, .int .i64 t.due]] w (fun v w' => v = .bool true ∧ SH w noBlocks [] w') := by
  refine does_enter2 Tryd.func5 rfl Tryd.ntmps5 rfl ?_
  have H := SH.start w noBlocks
  refine tr_seq (fun K1 hK1 => ?_)
  -- region 0: law.go:115
  refine tr_region ?_
  refine tr_box H rfl rfl rfl rfl rfl rfl ?_
  intro b1 w1 hb1 H
  refine tr_val (ov_assign rfl rfl) rfl rfl rfl ?_
  refine tr_nil (hK1 _ _ (TrC.keep [4, 3, 0] ?_))
  show TrC _ _ _ _ [(4, _), (3, _), (0, _)] _ _
  refine tr_seq (fun K2 hK2 => ?_)
  -- region 1: law.go:116
  refine tr_region ?_
  refine tr_val (ov_assign rfl rfl) rfl rfl rfl ?_
  refine tr_nil (hK2 _ _ (TrC.keep [5, 4, 3, 0] ?_))
  show TrC _ _ _ _ [(5, _), (4, _), (3, _), (0, _)] _ _
  refine tr_seq (fun K3 hK3 => ?_)
  refine tr_seq (fun K4 hK4 => ?_)
  -- region 2: law.go:117
  refine tr_region ?_
  refine tr_val (ov_move rfl rfl) rfl rfl rfl ?_
  refine tr_val (ov_build rfl (fun ρ k => bs0 k) (bld54 _)) rfl rfl rfl ?_
  refine tr_box H rfl rfl rfl rfl rfl rfl ?_
  intro b9 w2 hb9 H
  refine tr_buildSlice H rfl Tryd.underlying55 info38 rfl (fun ρ k => bs2 k rfl rfl) (by decide) (by decide) (fill_Ptr_2 none (some ⟨b9, 0, none⟩)) rfl rfl rfl ?_
  intro b10 w10 hb10 H
  refine tr_val (ov_len rfl rfl Tryd.underlying55 rfl) rfl rfl rfl ?_
  refine tr_val (ov_move rfl rfl) rfl rfl rfl ?_
  refine tr_nil (hK4 _ _ (TrC.keep [21, 20, 19, 4, 3, 0] ?_))
  show TrC _ _ _ _ [(21, _), (20, _), (19, _), (4, _), (3, _), (0, _)] _ _
  refine tr_block ?_
  refine tr_loop_ (X := Int) [20, 19, 3, 0] (fun i => [(21, .int .i64 i)]) (fun i w' => 0 ≤ i ∧ i ≤ 2 ∧ SH w noBlocks [blk b10 38 [.pointer none, .pointer (some ⟨b9, 0, none⟩)], blk b9 54 [.slice none 0 0, .slice none 0 0, .slice none 0 0, .slice none 0 0, .slice none 0 0, .slice none 0 0, .slice none 0 0, .slice none 0 0, .slice none 0 0, .slice none 0 0, .slice none 0 0, .slice none 0 0, .slice none 0 0, .slice none 0 0, .slice none 0 0, .slice none 0 0, .slice none 0 0, .slice none 0 0, .slice none 0 0, .slice none 0 0, .slice none 0 0, .slice none 0 0, .slice none 0 0, .slice none 0 0, .slice none 0 0, .slice none 0 0, .slice none 0 0, .slice none 0 0, .slice none 0 0, .slice none 0 0, .slice none 0 0, .slice none 0 0, .slice none 0 0, .slice none 0 0, .slice none 0 0, .slice none 0 0, .slice none 0 0, .slice none 0 0, .slice none 0 0, .slice none 0 0, .slice none 0 0, .slice none 0 0, .slice none 0 0, .slice none 0 0, .slice none 0 0, .slice none 0 0, .slice none 0 0, .slice none 0 0, .slice none 0 0, .slice none 0 0, .slice none 0 0, .slice none 0 0, .slice none 0 0, .slice none 0 0, .slice none 0 0, .slice none 0 0, .slice none 0 0, .slice none 0 0, .slice none 0 0, .slice none 0 0, .slice none 0 0, .slice none 0 0, .slice none 0 0, .slice none 0 0, .int .u64 0, .map none], blk b1 27 [.int .u64 t.id, .int .u64 t.gen, .int .i64 t.due]] w') (fun i => (2 - i).toNat) (0) (Sub.cons rfl (Sub.cons rfl (Sub.cons rfl (Sub.cons rfl (Sub.cons rfl Sub.nil))))) (⟨by omega, by omega, H⟩) ?_
  rintro i w3 ⟨hi0, hi1, H⟩ K5 hK5
  show TrC _ _ _ _ [(21, _), (20, _), (19, _), (3, _), (0, _)] _ _
  refine tr_seq (fun K6 hK6 => ?_)
  -- region 3: law.go:117
  refine tr_region ?_
  refine tr_val (ov_lss rfl rfl rfl) rfl rfl rfl ?_
  refine tr_nil (hK6 _ _ (TrC.keep [22, 21, 20, 19, 3, 0] ?_))
  show TrC _ _ _ _ [(22, _), (21, _), (20, _), (19, _), (3, _), (0, _)] _ _
  refine tr_seq (fun K7 hK7 => ?_)
  first | refine tr_cond rfl (fun c22 => ?_) (fun c22 => ?_) | refine tr_condb rfl (fun c22 => ?_) (fun c22 => ?_)
  · skip
    refine tr_skip (hK7 _ _ (TrC.keep [22, 21, 20, 19, 3, 0] ?_))
    show TrC _ _ _ _ [(22, _), (21, _), (20, _), (19, _), (3, _), (0, _)] _ _
    refine tr_seq (fun K8 hK8 => ?_)
    refine tr_block ?_
    refine tr_seq (fun K9 hK9 => ?_)
    -- region 4: law.go:117
    refine tr_region ?_
    refine tr_val (ov_indexAddrR (rd_blk [none, some (⟨b9, 0, none⟩ : Addr)] H.get0 rfl lenPtr) rfl Tryd.underlying55 (Tryd.sizeOf38 _) rfl rfl (by omega) (by omega)) rfl rfl rfl ?_
    refine tr_val (ld_Ptr (rd_blk [none, some (⟨b9, 0, none⟩ : Addr)] H.get0 rfl lenPtr) rfl (Tryd.isAgg38 _) rfl (by omega) (by omega)) rfl rfl rfl ?_
    refine tr_val (ov_assign rfl rfl) rfl rfl rfl ?_
    refine tr_nil (hK9 _ _ (TrC.keep [7, 22, 21, 20, 19, 3, 0] ?_))
    show TrC _ _ _ _ [(7, _), (22, _), (21, _), (20, _), (19, _), (3, _), (0, _)] _ _
    refine tr_seq (fun K10 hK10 => ?_)
    -- region 5: law.go:118
    obtain ⟨p, hp⟩ : ∃ p, gt [none, some (⟨b9, 0, none⟩ : Addr)] i = p := ⟨_, rfl⟩
    rw [hp]
    have hnr : ∀ w', (blk b9 54 [.slice none 0 0, .slice none 0 0, .slice none 0 0, .slice none 0 0, .slice none 0 0, .slice none 0 0, .slice none 0 0, .slice none 0 0, .slice none 0 0, .slice none 0 0, .slice none 0 0, .slice none 0 0, .slice none 0 0, .slice none 0 0, .slice none 0 0, .slice none 0 0, .slice none 0 0, .slice none 0 0, .slice none 0 0, .slice none 0 0, .slice none 0 0, .slice none 0 0, .slice none 0 0, .slice none 0 0, .slice none 0 0, .slice none 0 0, .slice none 0 0, .slice none 0 0, .slice none 0 0, .slice none 0 0, .slice none 0 0, .slice none 0 0, .slice none 0 0, .slice none 0 0, .slice none 0 0, .slice none 0 0, .slice none 0 0, .slice none 0 0, .slice none 0 0, .slice none 0 0, .slice none 0 0, .slice none 0 0, .slice none 0 0, .slice none 0 0, .slice none 0 0, .slice none 0 0, .slice none 0 0, .slice none 0 0, .slice none 0 0, .slice none 0 0, .slice none 0 0, .slice none 0 0, .slice none 0 0, .slice none 0 0, .slice none 0 0, .slice none 0 0, .slice none 0 0, .slice none 0 0, .slice none 0 0, .slice none 0 0, .slice none 0 0, .slice none 0 0, .slice none 0 0, .slice none 0 0, .int .u64 0, .map none]).holds w' → NoRing w' p := fun w' h => by
      rcases (show i = 0 ∨ i = 1 by omega) with e | e
      · subst e; rw [← hp]; exact .inl rfl
      · subst e; rw [← hp]; exact nobody_ring h
    refine tr_region ?_
    refine tr_val (ov_move rfl rfl) rfl rfl rfl ?_
    refine tr_val (ov_fieldAddr rfl Tryd.underlying27 rfl (Tryd.sizeOf25 _) (by decide) rfl) rfl rfl rfl ?_
    first | refine tr_val (ov_load_blk H.get0 rfl (Tryd.isAgg25 _) rfl rfl rfl) rfl rfl rfl ?_ | refine tr_val (ov_load_blk H.get1 rfl (Tryd.isAgg25 _) rfl rfl rfl) rfl rfl rfl ?_ | refine tr_val (ov_load_blk H.get2 rfl (Tryd.isAgg25 _) rfl rfl rfl) rfl rfl rfl ?_ | refine tr_val (ov_load_blk H.get3 rfl (Tryd.isAgg25 _) rfl rfl rfl) rfl rfl rfl ?_ | refine tr_val (ov_load_blk H.get4 rfl (Tryd.isAgg25 _) rfl rfl rfl) rfl rfl rfl ?_ | refine tr_val (ov_load_blk H.get5 rfl (Tryd.isAgg25 _) rfl rfl rfl) rfl rfl rfl ?_ | refine tr_val (ov_load_blk H.get6 rfl (Tryd.isAgg25 _) rfl rfl rfl) rfl rfl rfl ?_
    refine tr_call (ringDrop_n p _ (hnr _ H.get1) t.id) rfl rfl rfl Tryd.call20 rfl rfl rfl ?_
    rintro _ w4 ⟨rfl, HC⟩
    have H := H.call0n HC
    refine tr_val (ov_move rfl rfl) rfl rfl rfl ?_
    refine tr_val (ov_extract rfl rfl rfl) rfl rfl rfl ?_
    refine tr_val (ov_extract rfl rfl rfl) rfl rfl rfl ?_
    refine tr_alloc H rfl (Tryd.zeroValue27 _) rfl rfl rfl rfl ?_
    intro b3 w5 hb3 H
    first | (refine tr_storeW H.get0 rfl (Tryd.sizeOf27 _) rfl rfl rfl rfl rfl rfl rfl rfl ?_; intro w6 U; have H := H.upd0 U; clear U) | (refine tr_storeW H.get1 rfl (Tryd.sizeOf27 _) rfl rfl rfl rfl rfl rfl rfl rfl ?_; intro w6 U; have H := H.upd1 U; clear U) | (refine tr_storeW H.get2 rfl (Tryd.sizeOf27 _) rfl rfl rfl rfl rfl rfl rfl rfl ?_; intro w6 U; have H := H.upd2 U; clear U) | (refine tr_storeW H.get3 rfl (Tryd.sizeOf27 _) rfl rfl rfl rfl rfl rfl rfl rfl ?_; intro w6 U; have H := H.upd3 U; clear U) | (refine tr_storeW H.get4 rfl (Tryd.sizeOf27 _) rfl rfl rfl rfl rfl rfl rfl rfl ?_; intro w6 U; have H := H.upd4 U; clear U) | (refine tr_storeW H.get5 rfl (Tryd.sizeOf27 _) rfl rfl rfl rfl rfl rfl rfl rfl ?_; intro w6 U; have H := H.upd5 U; clear U) | (refine tr_storeW H.get6 rfl (Tryd.sizeOf27 _) rfl rfl rfl rfl rfl rfl rfl rfl ?_; intro w6 U; have H := H.upd6 U; clear U)
    refine tr_val (ov_assign rfl rfl) rfl rfl rfl ?_
    refine tr_nil (hK10 _ _ (TrC.keep [9, 7, 22, 21, 20, 19, 3, 0] ?_))
    show TrC _ _ _ _ [(9, _), (7, _), (22, _), (21, _), (20, _), (19, _), (3, _), (0, _)] _ _
    refine tr_seq (fun K11 hK11 => ?_)
    -- region 6: law.go:119
    refine tr_region ?_
    refine tr_val (ov_move rfl rfl) rfl rfl rfl ?_
    refine tr_val (ov_fieldAddr rfl Tryd.underlying27 rfl (Tryd.sizeOf25 _) (by decide) rfl) rfl rfl rfl ?_
    first | refine tr_val (ov_load_blk H.get0 rfl (Tryd.isAgg25 _) rfl rfl rfl) rfl rfl rfl ?_ | refine tr_val (ov_load_blk H.get1 rfl (Tryd.isAgg25 _) rfl rfl rfl) rfl rfl rfl ?_ | refine tr_val (ov_load_blk H.get2 rfl (Tryd.isAgg25 _) rfl rfl rfl) rfl rfl rfl ?_ | refine tr_val (ov_load_blk H.get3 rfl (Tryd.isAgg25 _) rfl rfl rfl) rfl rfl rfl ?_ | refine tr_val (ov_load_blk H.get4 rfl (Tryd.isAgg25 _) rfl rfl rfl) rfl rfl rfl ?_ | refine tr_val (ov_load_blk H.get5 rfl (Tryd.isAgg25 _) rfl rfl rfl) rfl rfl rfl ?_ | refine tr_val (ov_load_blk H.get6 rfl (Tryd.isAgg25 _) rfl rfl rfl) rfl rfl rfl ?_
    refine tr_call (ringGet_n p _ (hnr _ H.get2) t.id) rfl rfl rfl Tryd.call21 rfl rfl rfl ?_
    rintro _ w7 ⟨rfl, HC⟩
    have H := H.call0n HC
    refine tr_val (ov_move rfl rfl) rfl rfl rfl ?_
    refine tr_val (ov_extract rfl rfl rfl) rfl rfl rfl ?_
    refine tr_val (ov_extract rfl rfl rfl) rfl rfl rfl ?_
    refine tr_val (ov_extract rfl rfl rfl) rfl rfl rfl ?_
    refine tr_alloc H rfl (Tryd.zeroValue27 _) rfl rfl rfl rfl ?_
    intro b4 w8 hb4 H
    first | (refine tr_storeW H.get0 rfl (Tryd.sizeOf27 _) rfl rfl rfl rfl rfl rfl rfl rfl ?_; intro w9 U; have H := H.upd0 U; clear U) | (refine tr_storeW H.get1 rfl (Tryd.sizeOf27 _) rfl rfl rfl rfl rfl rfl rfl rfl ?_; intro w9 U; have H := H.upd1 U; clear U) | (refine tr_storeW H.get2 rfl (Tryd.sizeOf27 _) rfl rfl rfl rfl rfl rfl rfl rfl ?_; intro w9 U; have H := H.upd2 U; clear U) | (refine tr_storeW H.get3 rfl (Tryd.sizeOf27 _) rfl rfl rfl rfl rfl rfl rfl rfl ?_; intro w9 U; have H := H.upd3 U; clear U) | (refine tr_storeW H.get4 rfl (Tryd.sizeOf27 _) rfl rfl rfl rfl rfl rfl rfl rfl ?_; intro w9 U; have H := H.upd4 U; clear U) | (refine tr_storeW H.get5 rfl (Tryd.sizeOf27 _) rfl rfl rfl rfl rfl rfl rfl rfl ?_; intro w9 U; have H := H.upd5 U; clear U) | (refine tr_storeW H.get6 rfl (Tryd.sizeOf27 _) rfl rfl rfl rfl rfl rfl rfl rfl ?_; intro w9 U; have H := H.upd6 U; clear U)
    refine tr_val (ov_assign rfl rfl) rfl rfl rfl ?_
    refine tr_val (ov_assign rfl rfl) rfl rfl rfl ?_
    refine tr_nil (hK11 _ _ (TrC.keep [12, 9, 7, 22, 21, 20, 19, 3, 0] ?_))
    show TrC _ _ _ _ [(12, _), (9, _), (7, _), (22, _), (21, _), (20, _), (19, _), (3, _), (0, _)] _ _
    refine tr_seq (fun K12 hK12 => ?_)
    -- region 7: law.go:120
    refine tr_region ?_
    refine tr_val (ov_move rfl rfl) rfl rfl rfl ?_
    refine tr_val (ov_move rfl rfl) rfl rfl rfl ?_
    refine tr_call (ringNext_n p _ (hnr _ H.get3) s) rfl rfl rfl Tryd.call22 rfl rfl rfl ?_
    rintro _ w10 ⟨rfl, HC⟩
    have H := H.call0n HC
    refine tr_val (ov_move rfl rfl) rfl rfl rfl ?_
    refine tr_val (ov_extract rfl rfl rfl) rfl rfl rfl ?_
    refine tr_val (ov_extract rfl rfl rfl) rfl rfl rfl ?_
    refine tr_val (ov_extract rfl rfl rfl) rfl rfl rfl ?_
    refine tr_val (ov_assign rfl rfl) rfl rfl rfl ?_
    refine tr_val (ov_assign rfl rfl) rfl rfl rfl ?_
    refine tr_val (ov_assign rfl rfl) rfl rfl rfl ?_
    refine tr_nil (hK12 _ _ (TrC.keep [15, 12, 9, 7, 22, 21, 20, 19, 3, 0] ?_))
    show TrC _ _ _ _ [(15, _), (12, _), (9, _), (7, _), (22, _), (21, _), (20, _), (19, _), (3, _), (0, _)] _ _
    refine tr_seq (fun K13 hK13 => ?_)
    -- region 8: law.go:121
    refine tr_region ?_
    refine tr_val (ov_move rfl rfl) rfl rfl rfl ?_
    refine tr_val (ov_move rfl rfl) rfl rfl rfl ?_
    first | refine tr_val (ov_load_blkN H.get0 rfl (Tryd.isAgg27 _) (Tryd.sizeOf27 _) rfl rfl rfl) rfl rfl rfl ?_ | refine tr_val (ov_load_blkN H.get1 rfl (Tryd.isAgg27 _) (Tryd.sizeOf27 _) rfl rfl rfl) rfl rfl rfl ?_ | refine tr_val (ov_load_blkN H.get2 rfl (Tryd.isAgg27 _) (Tryd.sizeOf27 _) rfl rfl rfl) rfl rfl rfl ?_ | refine tr_val (ov_load_blkN H.get3 rfl (Tryd.isAgg27 _) (Tryd.sizeOf27 _) rfl rfl rfl) rfl rfl rfl ?_ | refine tr_val (ov_load_blkN H.get4 rfl (Tryd.isAgg27 _) (Tryd.sizeOf27 _) rfl rfl rfl) rfl rfl rfl ?_ | refine tr_val (ov_load_blkN H.get5 rfl (Tryd.isAgg27 _) (Tryd.sizeOf27 _) rfl rfl rfl) rfl rfl rfl ?_ | refine tr_val (ov_load_blkN H.get6 rfl (Tryd.isAgg27 _) (Tryd.sizeOf27 _) rfl rfl rfl) rfl rfl rfl ?_
    refine tr_call (ringPut_n p _ (hnr _ H.get3) s t) rfl rfl rfl Tryd.call23 rfl rfl rfl ?_
    rintro _ w11 ⟨rfl, HC⟩
    have H := H.call0n HC
    refine tr_val (ov_neq rfl rfl rfl) rfl rfl rfl ?_
    refine tr_val (ov_move rfl rfl) rfl rfl rfl ?_
    first | refine tr_split (t := 52) rfl (fun s52 => ?_) (fun s52 => ?_) | refine tr_splitb (t := 52) rfl (fun s52 => ?_) (fun s52 => ?_)
    · first | exact absurd rfl s52 | cases s52 | exact absurd s52 (by decide)
    · skip
      refine tr_val (ov_move rfl rfl) rfl rfl rfl ?_
      refine tr_val (ov_pick_f (va := undef) rfl rfl rfl rfl) rfl rfl rfl ?_
      refine tr_val (ov_move rfl rfl) rfl rfl rfl ?_
      first | refine tr_split (t := 55) rfl (fun s55 => ?_) (fun s55 => ?_) | refine tr_splitb (t := 55) rfl (fun s55 => ?_) (fun s55 => ?_)
      · first | exact absurd rfl s55 | cases s55 | exact absurd s55 (by decide)
      · skip
        refine tr_val (ov_move rfl rfl) rfl rfl rfl ?_
        refine tr_val (ov_pick_f (va := undef) rfl rfl rfl rfl) rfl rfl rfl ?_
        refine tr_val (ov_move rfl rfl) rfl rfl rfl ?_
        first | refine tr_split (t := 58) rfl (fun s58 => ?_) (fun s58 => ?_) | refine tr_splitb (t := 58) rfl (fun s58 => ?_) (fun s58 => ?_)
        · first | exact absurd rfl s58 | cases s58 | exact absurd s58 (by decide)
        · skip
          refine tr_val (ov_move rfl rfl) rfl rfl rfl ?_
          refine tr_val (ov_pick_f (va := undef) rfl rfl rfl rfl) rfl rfl rfl ?_
          refine tr_val (ov_move rfl rfl) rfl rfl rfl ?_
          first | refine tr_split (t := 61) rfl (fun s61 => ?_) (fun s61 => ?_) | refine tr_splitb (t := 61) rfl (fun s61 => ?_) (fun s61 => ?_)
          · first | exact absurd rfl s61 | cases s61 | exact absurd s61 (by decide)
          · skip
            refine tr_val (ov_move rfl rfl) rfl rfl rfl ?_
            refine tr_val (ov_move rfl rfl) rfl rfl rfl ?_
            refine tr_call (ringTake_n p _ (hnr _ H.get3) s) rfl rfl rfl Tryd.call19 rfl rfl rfl ?_
            rintro _ w12 ⟨rfl, HC⟩
            have H := H.call0n HC
            refine tr_val (ov_len rfl rfl Tryd.underlying22 rfl) rfl rfl rfl ?_
            refine tr_val (ov_move rfl rfl) rfl rfl rfl ?_
            refine tr_val (ov_move rfl rfl) rfl rfl rfl ?_
            refine tr_call (ringLook_n p _ (hnr _ H.get3) s) rfl rfl rfl Tryd.call24 rfl rfl rfl ?_
            rintro _ w13 ⟨rfl, HC⟩
            have H := H.call0n HC
            refine tr_val (ov_len rfl rfl Tryd.underlying22 rfl) rfl rfl rfl ?_
            refine tr_val (ov_add rfl rfl rfl (w64 (by omega))) rfl rfl rfl ?_
            refine tr_val (ov_neq rfl rfl rfl) rfl rfl rfl ?_
            refine tr_val (ov_pick_f (va := undef) rfl rfl rfl rfl) rfl rfl rfl ?_
            refine tr_val (ov_move rfl rfl) rfl rfl rfl ?_
            first | refine tr_split (t := 73) rfl (fun s73 => ?_) (fun s73 => ?_) | refine tr_splitb (t := 73) rfl (fun s73 => ?_) (fun s73 => ?_)
            · first | exact absurd rfl s73 | cases s73 | exact absurd s73 (by decide)
            · skip
              refine tr_val (ov_move rfl rfl) rfl rfl rfl ?_
              refine tr_call (ringLen_n p _ (hnr _ H.get3)) rfl rfl rfl Tryd.call15 rfl rfl rfl ?_
              rintro _ w14 ⟨rfl, HC⟩
              have H := H.call0n HC
              refine tr_val (ov_neq rfl rfl rfl) rfl rfl rfl ?_
              refine tr_val (ov_pick_f (va := undef) rfl rfl rfl rfl) rfl rfl rfl ?_
              refine tr_val (ov_move rfl rfl) rfl rfl rfl ?_
              first | refine tr_split (t := 78) rfl (fun s78 => ?_) (fun s78 => ?_) | refine tr_splitb (t := 78) rfl (fun s78 => ?_) (fun s78 => ?_)
              · first | exact absurd rfl s78 | cases s78 | exact absurd s78 (by decide)
              · skip
                refine tr_val (ov_move rfl rfl) rfl rfl rfl ?_
                refine tr_call (ringUsed_n p _ (hnr _ H.get3)) rfl rfl rfl Tryd.call16 rfl rfl rfl ?_
                rintro _ w15 ⟨rfl, HC⟩
                have H := H.call0n HC
                refine tr_val (ov_neq rfl rfl rfl) rfl rfl rfl ?_
                refine tr_val (ov_pick_f (va := undef) rfl rfl rfl rfl) rfl rfl rfl ?_
                refine tr_nil (hK13 _ _ (TrC.keep [82, 7, 22, 21, 20, 19, 3, 0] ?_))
                show TrC _ _ _ _ [(82, _), (7, _), (22, _), (21, _), (20, _), (19, _), (3, _), (0, _)] _ _
                first | refine tr_cond rfl (fun c82 => ?_) (fun c82 => ?_) | refine tr_condb rfl (fun c82 => ?_) (fun c82 => ?_)
                · exact absurd rfl c82
                · skip
                  refine tr_skip (hK8 _ _ (TrC.keep [82, 7, 22, 21, 20, 19, 3, 0] ?_))
                  show TrC _ _ _ _ [(82, _), (7, _), (22, _), (21, _), (20, _), (19, _), (3, _), (0, _)] _ _
                  -- region 10: law.go:117
                  refine tr_region ?_
                  refine tr_val (ov_add rfl rfl rfl (w64 (by omega))) rfl rfl rfl ?_
                  refine tr_val (ov_move rfl rfl) rfl rfl rfl ?_
                  skip
                  exact tr_nil (hK5 (i + 1) _ _ (⟨by omega, by omega, H.drop0.drop0⟩) (by first | omega | (dsimp only; omega)) (Sub.cons rfl (Sub.cons rfl (Sub.cons rfl (Sub.cons rfl (Sub.cons rfl Sub.nil))))))
  · skip
    refine tr_exit (hK3 _ _ (TrC.keep [22, 21, 20, 19, 3, 0] ?_))
    show TrC _ _ _ _ [(22, _), (21, _), (20, _), (19, _), (3, _), (0, _)] _ _
    refine tr_seq (fun K14 hK14 => ?_)
    -- region 11: law.go:125
    refine tr_region ?_
    refine tr_call (lives11_c _ (H.res0 hT)) rfl rfl rfl Tryd.call6 rfl rfl rfl ?_
    rintro _ w16 ⟨rfl, HC⟩
    have H := H.call0n HC
    refine tr_val (ov_assign rfl rfl) rfl rfl rfl ?_
    refine tr_nil (hK14 _ _ (TrC.keep [4, 22, 21, 20, 19, 3, 0] ?_))
    show TrC _ _ _ _ [(4, _), (22, _), (21, _), (20, _), (19, _), (3, _), (0, _)] _ _
    refine tr_ret (post_ret1 (.inr rfl) rfl rfl ?_)
    exact ⟨rfl, H.drop0.drop0.drop0⟩

end Go.Proofs.YtblipnjjgbggiaaDoor
