/- Contracts of wheel.Wheel: Cancel, All, Next, late, what goes down. Conditions: none. -/
import Derived.Test.YtblipnjjgbggiaaWhA
import Derived.Test.YtblipnjjgbggiaaWheelT
namespace Go.Proofs.Ytblipnjjgbggiaa
open Go Go.RowKit
set_option linter.unusedVariables false
set_option linter.unusedSimpArgs false

/-! (*curfew/wheel.Wheel).Cancel -/
set_option maxRecDepth 20000 in
theorem wCancel_c (d : Nat) (now : Int) (X : List Thing) (L : List Res) (w : World) (hX : WheelX 65 117 161 30 d now X L) (hO : (pack L).holds w) (id : Int) : Does Try.prog 21 #[.pointer (some ⟨d, 0, none⟩), .int .u64 id] w (fun v w' => v = .tuple #[.agg #[.int .u64 (tOr (findT id X)).id, .int .u64 (tOr (findT id X)).gen, .int .i64 (tOr (findT id X)).due], .bool ((findT id X)).isSome] ∧ ∃ L', WheelX 65 117 161 30 d now (dropT id X) L' ∧ SH w (pack L).foot [pack L'] w') := by
  refine does_enter2 Try.func21 rfl Try.ntmps21 rfl ?_
  have H := SH.own1 hO
  refine tr_seq (fun K1 hK1 => ?_)
  -- region 0: wheel.go:130
  refine tr_region ?_
  refine tr_alloc H rfl (Try.zeroValue30 _) rfl rfl rfl rfl ?_
  intro b1 w1 hb1 H
  refine tr_val (ov_assign rfl rfl) rfl rfl rfl ?_
  refine tr_nil (hK1 _ _ (TrC.keep [5, 4, 0, 1] ?_))
  show TrC _ _ _ _ [(5, _), (4, _), (0, _), (1, _)] _ _
  refine tr_seq (fun K2 hK2 => ?_)
  -- region 1: wheel.go:131
  refine tr_region ?_
  refine tr_val (ov_move rfl rfl) rfl rfl rfl ?_
  refine tr_val (ov_move rfl rfl) rfl rfl rfl ?_
  refine tr_call (wGet_c d now X L _ hX H.get1 id) rfl rfl rfl Try.call27 rfl rfl rfl ?_
  rintro _ w2 ⟨rfl, HC⟩
  have H := H.call0n HC
  refine tr_val (ov_move rfl rfl) rfl rfl rfl ?_
  refine tr_val (ov_extract rfl rfl rfl) rfl rfl rfl ?_
  refine tr_val (ov_extract rfl rfl rfl) rfl rfl rfl ?_
  refine tr_alloc H rfl (Try.zeroValue30 _) rfl rfl rfl rfl ?_
  intro b2 w3 hb2 H
  (refine tr_storeW H.get0 rfl (Try.sizeOf30 _) rfl rfl rfl rfl rfl rfl rfl rfl ?_; intro w4 U; have H := H.upd0 U; clear U)
  refine tr_val (ov_assign rfl rfl) rfl rfl rfl ?_
  refine tr_nil (hK2 _ _ (TrC.keep [7, 6, 5, 4, 0, 1] ?_))
  show TrC _ _ _ _ [(7, _), (6, _), (5, _), (4, _), (0, _), (1, _)] _ _
  refine tr_seq (fun K3 hK3 => ?_)
  refine tr_seq (fun K4 hK4 => ?_)
  -- region 2: wheel.go:132
  refine tr_region ?_
  refine tr_val (ov_move rfl rfl) rfl rfl rfl ?_
  refine tr_val (ov_notb rfl rfl) rfl rfl rfl ?_
  refine tr_nil (hK4 _ _ (TrC.keep [17, 6, 5, 4, 0, 1] ?_))
  show TrC _ _ _ _ [(17, _), (6, _), (5, _), (4, _), (0, _), (1, _)] _ _
  refine tr_condb rfl (fun c17 => ?_) (fun c17 => ?_)
  · skip
    refine tr_seq (fun K5 hK5 => ?_)
    -- region 3: wheel.go:133
    refine tr_region ?_
    refine tr_val (ov_load_blkN H.get0 rfl (Try.isAgg30 _) (Try.sizeOf30 _) rfl rfl rfl) rfl rfl rfl ?_
    (refine tr_storeW H.get1 rfl (Try.sizeOf30 _) rfl rfl rfl rfl rfl rfl rfl rfl ?_; intro w5 U; have H := H.upd1 U; clear U)
    refine tr_val (ov_assign rfl rfl) rfl rfl rfl ?_
    refine tr_nil (hK5 _ _ (TrC.keep [5, 17, 6, 4, 0, 1] ?_))
    show TrC _ _ _ _ [(5, _), (17, _), (6, _), (4, _), (0, _), (1, _)] _ _
    refine tr_ret (post_ret2 (.inr rfl) rfl (by exact ⟨_, rfl, res_blkN H.get1 (Try.isAgg30 _) (Try.sizeOf30 _) rfl rfl⟩) rfl ?_)
    have hn : findT id X = none := by cases h : findT id X with | none => rfl | some u => rw [h] at c17; cases c17
    rw [hn, dropT_none hn]
    exact ⟨rfl, L, hX, H.drop0.drop0⟩
  · skip
    refine tr_skip (hK3 _ _ (TrC.keep [17, 6, 5, 4, 0, 1] ?_))
    show TrC _ _ _ _ [(17, _), (6, _), (5, _), (4, _), (0, _), (1, _)] _ _
    refine tr_seq (fun K6 hK6 => ?_)
    refine tr_seq (fun K7 hK7 => ?_)
    -- region 4: wheel.go:135
    obtain ⟨Rs, Fv, hW, hM⟩ := hX
    obtain ⟨f, m, ds, E, ck, Ls, hG, hE, rfl⟩ := hM
    have hds := hG.1
    have H := SH.unpackL [_, _] H
    change SH w _ (blk b2 30 [.int .u64 (tOr (findT id X)).id, .int .u64 (tOr (findT id X)).gen, .int .i64 (tOr (findT id X)).due] :: blk b1 30 [.int .u64 0, .int .u64 0, .int .i64 0] :: blk d 65 (cellsW now ds f) :: blk f 117 [.map (some m)] :: mapT m E ck :: Ls.map pack) _ at H
    refine tr_region ?_
    refine tr_val (ov_move rfl rfl) rfl rfl rfl ?_
    refine tr_val (ov_nilCheck rfl rfl) rfl rfl rfl ?_
    refine tr_val (ov_fieldAddr rfl Try.underlying65 rfl (Try.sizeOf62 _) (by decide) rfl) rfl rfl rfl ?_
    refine tr_val (ov_load_blkP (vs := ds.map ptrN) H.get2 rfl (Try.isAgg62 _) (Try.sizeOf62 _) (arr_len hds) rfl rfl (cellsW_arr hds)) rfl rfl rfl ?_
    refine tr_val (ov_move rfl rfl) rfl rfl rfl ?_
    refine tr_nil (hK7 _ _ (TrC.keep [23, 22, 17, 6, 5, 4, 0, 1] ?_))
    show TrC _ _ _ _ [(23, _), (22, _), (17, _), (6, _), (5, _), (4, _), (0, _), (1, _)] _ _
    refine tr_block ?_
    refine tr_loop_ (X := Int × List (List RThing) × List (List Res)) [22, 17, 6, 5, 4, 0, 1] (fun ⟨i, Rs2, Ls2⟩ => [(23, .int .i64 i)]) (fun ⟨i, Rs2, Ls2⟩ w' => 0 ≤ i ∧ i ≤ 4 ∧ Rs2.length = 4 ∧ (∀ j : Int, 0 ≤ j → j < 4 → gt Rs2 j = if j < i then dropR id (gt Rs j) else gt Rs j) ∧ Rings 161 30 ds Rs2 Ls2 ∧ SH w (pack (wheelL 65 117 d f m now ds E ck Ls)).foot (blk b2 30 [.int .u64 (tOr (findT id X)).id, .int .u64 (tOr (findT id X)).gen, .int .i64 (tOr (findT id X)).due] :: blk b1 30 [.int .u64 0, .int .u64 0, .int .i64 0] :: blk d 65 (cellsW now ds f) :: blk f 117 [.map (some m)] :: mapT m E ck :: Ls2.map pack) w') (fun ⟨i, Rs2, Ls2⟩ => (4 - i).toNat) (⟨0, Rs, Ls⟩) (Sub.cons rfl (Sub.cons rfl (Sub.cons rfl (Sub.cons rfl (Sub.cons rfl (Sub.cons rfl (Sub.cons rfl (Sub.cons rfl Sub.nil)))))))) (⟨by omega, by omega, hW.len, fun j h0 h1 => by rw [if_neg (by omega)], hG, H⟩) ?_
    rintro ⟨i, Rs2, Ls2⟩ w6 ⟨hi0, hi1, hl2, hg2, hG2, H⟩ K8 hK8
    show TrC _ _ _ _ [(23, _), (22, _), (17, _), (6, _), (5, _), (4, _), (0, _), (1, _)] _ _
    refine tr_seq (fun K9 hK9 => ?_)
    -- region 5: wheel.go:135
    refine tr_region ?_
    refine tr_val (ov_lss rfl rfl rfl) rfl rfl rfl ?_
    refine tr_nil (hK9 _ _ (TrC.keep [24, 23, 22, 17, 6, 5, 4, 0, 1] ?_))
    show TrC _ _ _ _ [(24, _), (23, _), (22, _), (17, _), (6, _), (5, _), (4, _), (0, _), (1, _)] _ _
    refine tr_seq (fun K10 hK10 => ?_)
    refine tr_cond rfl (fun c24 => ?_) (fun c24 => ?_)
    · skip
      refine tr_skip (hK10 _ _ (TrC.keep [24, 23, 22, 17, 6, 5, 4, 0, 1] ?_))
      show TrC _ _ _ _ [(24, _), (23, _), (22, _), (17, _), (6, _), (5, _), (4, _), (0, _), (1, _)] _ _
      refine tr_seq (fun K11 hK11 => ?_)
      refine tr_block ?_
      refine tr_seq (fun K12 hK12 => ?_)
      -- region 6: wheel.go:135
      refine tr_region ?_
      refine tr_val (ov_indexArr (vs := ds.map ptrN) rfl Try.underlying62 (Try.sizeOf61 _) (Try.isAgg61 _) rfl rfl hi0 (by omega) (arr_at hds hi0 (by omega))) rfl rfl rfl ?_
      refine tr_val (ov_assign rfl rfl) rfl rfl rfl ?_
      refine tr_nil (hK12 _ _ (TrC.keep [9, 24, 23, 22, 17, 6, 5, 4, 0, 1] ?_))
      show TrC _ _ _ _ [(9, _), (24, _), (23, _), (22, _), (17, _), (6, _), (5, _), (4, _), (0, _), (1, _)] _ _
      -- region 7: wheel.go:136
      refine tr_region ?_
      refine tr_val (ov_move rfl rfl) rfl rfl rfl ?_
      refine tr_val (ov_move rfl rfl) rfl rfl rfl ?_
      refine tr_call (ringDrop_c (gt ds i) (gt Rs2 i) (gt Ls2 i) _ (hG2.2.2 i hi0 (by omega)) (SH.atGet [_, _, _, _, _] H hi0 (by rw [hG2.2.1]; omega)) id (by rw [hg2 i hi0 (by omega), if_neg (by omega)]; have := hW.small hi0 (i := i) (by omega); omega)) rfl rfl rfl Try.call63 rfl rfl rfl ?_
      rintro _ w7 ⟨rfl, L1, hL1, HC⟩
      have H := SH.atCall (f := pack) [_, _, _, _, _] L1 [] H hi0 (by rw [hG2.2.1]; omega) HC
      refine tr_nil (hK11 _ _ (TrC.keep [24, 23, 22, 17, 6, 5, 4, 0, 1] ?_))
      show TrC _ _ _ _ [(24, _), (23, _), (22, _), (17, _), (6, _), (5, _), (4, _), (0, _), (1, _)] _ _
      -- region 8: wheel.go:135
      refine tr_region ?_
      refine tr_val (ov_add rfl rfl rfl (w64 (by omega))) rfl rfl rfl ?_
      refine tr_val (ov_move rfl rfl) rfl rfl rfl ?_
      skip
      exact tr_nil (hK8 (⟨i + 1, (Rs2.set i.toNat (dropR id (gt Rs2 i))), (Ls2.set i.toNat L1)⟩) _ _ (⟨by omega, by omega, by simpa using hl2, fun j h0 h1 => by
        rw [gt_setI h0 (by omega) hi0]
        by_cases e : j = i
        · subst e; rw [if_pos rfl, if_pos (by omega), hg2 j h0 h1, if_neg (by omega)]
        · rw [if_neg e, hg2 j h0 h1]
          by_cases q : j < i
          · rw [if_pos q, if_pos (by omega)]
          · rw [if_neg q, if_neg (by omega)], hG2.set hi0 (by omega) hl2 hL1, H⟩) (by (dsimp only; omega)) (Sub.cons rfl (Sub.cons rfl (Sub.cons rfl (Sub.cons rfl (Sub.cons rfl (Sub.cons rfl (Sub.cons rfl (Sub.cons rfl Sub.nil)))))))))
    · skip
      refine tr_exit (hK6 _ _ (TrC.keep [24, 23, 22, 17, 6, 5, 4, 0, 1] ?_))
      show TrC _ _ _ _ [(24, _), (23, _), (22, _), (17, _), (6, _), (5, _), (4, _), (0, _), (1, _)] _ _
      refine tr_seq (fun K13 hK13 => ?_)
      -- region 9: wheel.go:138
      have hi : i = 4 := by omega
      subst hi
      refine tr_region ?_
      refine tr_val (ov_move rfl rfl) rfl rfl rfl ?_
      refine tr_val (ov_nilCheck rfl rfl) rfl rfl rfl ?_
      refine tr_val (ov_fieldAddr rfl Try.underlying65 rfl (Try.sizeOf63 _) (by decide) rfl) rfl rfl rfl ?_
      refine tr_val (ov_load_blk H.get2 rfl (Try.isAgg63 _) rfl rfl (cellsW_far hds)) rfl rfl rfl ?_
      refine tr_val (ov_nilCheck rfl rfl) rfl rfl rfl ?_
      refine tr_val (ov_fieldAddr rfl Try.underlying117 rfl (Try.sizeOf71 _) (by decide) rfl) rfl rfl rfl ?_
      refine tr_val (ov_load_blk H.get3 rfl (Try.isAgg71 _) rfl rfl rfl) rfl rfl rfl ?_
      refine tr_val (ov_move rfl rfl) rfl rfl rfl ?_
      refine tr_mapDel H.get4 rfl rfl Try.underlying71 Try.underlying28 rfl rfl rfl rfl ?_
      intro w19 U; have H := H.upd4 U; clear U
      refine tr_nil (hK13 _ _ (TrC.keep [24, 23, 22, 17, 6, 5, 4, 0, 1] ?_))
      show TrC _ _ _ _ [(24, _), (23, _), (22, _), (17, _), (6, _), (5, _), (4, _), (0, _), (1, _)] _ _
      refine tr_seq (fun K14 hK14 => ?_)
      -- region 10: wheel.go:139
      refine tr_region ?_
      refine tr_val (ov_load_blkN H.get0 rfl (Try.isAgg30 _) (Try.sizeOf30 _) rfl rfl rfl) rfl rfl rfl ?_
      (refine tr_storeW H.get1 rfl (Try.sizeOf30 _) rfl rfl rfl rfl rfl rfl rfl rfl ?_; intro w8 U; have H := H.upd1 U; clear U)
      refine tr_val (ov_assign rfl rfl) rfl rfl rfl ?_
      refine tr_nil (hK14 _ _ (TrC.keep [5, 24, 23, 22, 17, 6, 4, 0, 1] ?_))
      show TrC _ _ _ _ [(5, _), (24, _), (23, _), (22, _), (17, _), (6, _), (4, _), (0, _), (1, _)] _ _
      refine tr_ret (post_ret2 (.inr rfl) rfl (by exact ⟨_, rfl, res_blkN H.get1 (Try.isAgg30 _) (Try.sizeOf30 _) rfl rfl⟩) rfl ?_)
      have hs : (findT id X).isSome = true := by cases h : findT id X with | none => rw [h] at c17; cases c17 | some u => rfl
      rw [hs]
      exact ⟨rfl, _, ⟨Rs2, dropT id Fv, (hW.cancel id).same hl2 (fun j h0 h1 => by rw [hg2 j h0 h1, if_pos h1, gt_mapR h0 (by rw [hW.len]; omega)]), f, m, ds, _, ck, Ls2, hG2, hE.del id, rfl⟩, SH.pack1 H.drop0.drop0⟩

/-! (*curfew/wheel.Wheel).Cancel -/
set_option maxRecDepth 20000 in
theorem wCancel_n (p : Option Addr) (w : World) (hp : NoWheel w p) (id : Int) : Does Try.prog 21 #[.pointer p, .int .u64 id] w (fun v w' => v = .tuple #[.agg #[.int .u64 0, .int .u64 0, .int .i64 0], .bool false] ∧ SH w noBlocks [] w') := by
  refine does_enter2 Try.func21 rfl Try.ntmps21 rfl ?_
  have H := SH.start w noBlocks
  refine tr_seq (fun K1 hK1 => ?_)
  -- region 0: wheel.go:130
  refine tr_region ?_
  refine tr_alloc H rfl (Try.zeroValue30 _) rfl rfl rfl rfl ?_
  intro b1 w1 hb1 H
  refine tr_val (ov_assign rfl rfl) rfl rfl rfl ?_
  refine tr_nil (hK1 _ _ (TrC.keep [5, 4, 0, 1] ?_))
  show TrC _ _ _ _ [(5, _), (4, _), (0, _), (1, _)] _ _
  refine tr_seq (fun K2 hK2 => ?_)
  -- region 1: wheel.go:131
  refine tr_region ?_
  refine tr_val (ov_move rfl rfl) rfl rfl rfl ?_
  refine tr_val (ov_move rfl rfl) rfl rfl rfl ?_
  refine tr_call (wGet_n p _ (hp.later H) id) rfl rfl rfl Try.call27 rfl rfl rfl ?_
  rintro _ w2 ⟨rfl, HC⟩
  have H := H.call0n HC
  refine tr_val (ov_move rfl rfl) rfl rfl rfl ?_
  refine tr_val (ov_extract rfl rfl rfl) rfl rfl rfl ?_
  refine tr_val (ov_extract rfl rfl rfl) rfl rfl rfl ?_
  refine tr_alloc H rfl (Try.zeroValue30 _) rfl rfl rfl rfl ?_
  intro b2 w3 hb2 H
  (refine tr_storeW H.get0 rfl (Try.sizeOf30 _) rfl rfl rfl rfl rfl rfl rfl rfl ?_; intro w4 U; have H := H.upd0 U; clear U)
  refine tr_val (ov_assign rfl rfl) rfl rfl rfl ?_
  refine tr_nil (hK2 _ _ (TrC.keep [7, 6, 5, 4, 0, 1] ?_))
  show TrC _ _ _ _ [(7, _), (6, _), (5, _), (4, _), (0, _), (1, _)] _ _
  refine tr_seq (fun K3 hK3 => ?_)
  refine tr_seq (fun K4 hK4 => ?_)
  -- region 2: wheel.go:132
  refine tr_region ?_
  refine tr_val (ov_move rfl rfl) rfl rfl rfl ?_
  refine tr_val (ov_notb rfl rfl) rfl rfl rfl ?_
  refine tr_nil (hK4 _ _ (TrC.keep [17, 6, 5, 4, 0, 1] ?_))
  show TrC _ _ _ _ [(17, _), (6, _), (5, _), (4, _), (0, _), (1, _)] _ _
  refine tr_condb rfl (fun c17 => ?_) (fun c17 => ?_)
  · skip
    refine tr_seq (fun K5 hK5 => ?_)
    -- region 3: wheel.go:133
    refine tr_region ?_
    refine tr_val (ov_load_blkN H.get0 rfl (Try.isAgg30 _) (Try.sizeOf30 _) rfl rfl rfl) rfl rfl rfl ?_
    (refine tr_storeW H.get1 rfl (Try.sizeOf30 _) rfl rfl rfl rfl rfl rfl rfl rfl ?_; intro w5 U; have H := H.upd1 U; clear U)
    refine tr_val (ov_assign rfl rfl) rfl rfl rfl ?_
    refine tr_nil (hK5 _ _ (TrC.keep [5, 17, 6, 4, 0, 1] ?_))
    show TrC _ _ _ _ [(5, _), (17, _), (6, _), (4, _), (0, _), (1, _)] _ _
    refine tr_ret (post_ret2 (.inr rfl) rfl (by exact ⟨_, rfl, res_blkN H.get1 (Try.isAgg30 _) (Try.sizeOf30 _) rfl rfl⟩) rfl ?_)
    exact ⟨rfl, H.drop0.drop0⟩
  · exact absurd c17 (by decide)

/-! (*curfew/wheel.Wheel).All -/
set_option maxRecDepth 20000 in
theorem wAll_c (d : Nat) (now : Int) (X : List Thing) (L : List Res) (w : World) (hX : WheelX 65 117 161 30 d now X L) (hO : (pack L).holds w) : Does Try.prog 18 #[.pointer (some ⟨d, 0, none⟩)] w (fun v w' => ∃ A' c', v = .slice A' (sortT X).length c' ∧ SH w noBlocks [vec A' c' 30 3 encThing (sortT X)] w') := by
  have hX0 := hX
  obtain ⟨Rs, Fv, hW, hM⟩ := hX
  have hM0 := hM
  obtain ⟨f, m, ds, E, ck, Ls, hG, hE, rfl⟩ := hM
  have hds := hG.1
  have hb : (blk d 65 (cellsW now ds f)).holds w := pack_hold hO (by simp [wheelL])
  have hf : (blk f 117 [.map (some m)]).holds w := pack_hold hO (by simp [wheelL])
  have hm : (mapT m E ck).holds w := pack_hold hO (by simp [wheelL])
  have hr : ∀ i : Int, 0 ≤ i → i < 4 → (pack (gt Ls i)).holds w := fun i h0 h1 => pack_hold hO (by simp only [wheelL, List.mem_cons]; exact .inr (.inr (.inr (List.mem_map.mpr ⟨_, gt_mem h0 (by rw [hG.2.1]; omega), rfl⟩))))
  refine does_enter1 Try.func18 rfl Try.ntmps18 rfl ?_
  have H := SH.start w noBlocks
  refine tr_seq (fun K1 hK1 => ?_)
  -- region 0: wheel.go:203
  refine tr_region ?_
  refine tr_val (ov_assign rfl rfl) rfl rfl rfl ?_
  refine tr_nil (hK1 _ _ (TrC.keep [2, 0] ?_))
  show TrC _ _ _ _ [(2, _), (0, _)] _ _
  refine tr_seq (fun K2 hK2 => ?_)
  refine tr_seq (fun K3 hK3 => ?_)
  -- region 1: wheel.go:204
  refine tr_region ?_
  refine tr_val (ov_move rfl rfl) rfl rfl rfl ?_
  refine tr_call (wnone_c d now Rs Fv _ _ ⟨f, m, ds, E, ck, Ls, hG, hE, rfl⟩ (H.res0 hO)) rfl rfl rfl Try.call54 rfl rfl rfl ?_
  rintro _ w1 ⟨rfl, HC⟩
  have H := H.call0n HC
  refine tr_nil (hK3 _ _ (TrC.keep [10, 2, 0] ?_))
  show TrC _ _ _ _ [(10, _), (2, _), (0, _)] _ _
  refine tr_condb rfl (fun c10 => ?_) (fun c10 => ?_)
  · cases c10
  · skip
    refine tr_skip (hK2 _ _ (TrC.keep [10, 2, 0] ?_))
    show TrC _ _ _ _ [(10, _), (2, _), (0, _)] _ _
    refine tr_seq (fun K4 hK4 => ?_)
    refine tr_seq (fun K5 hK5 => ?_)
    -- region 3: wheel.go:207
    have H := H.addNil 30 3 encThing
    refine tr_region ?_
    refine tr_val (ov_move rfl rfl) rfl rfl rfl ?_
    refine tr_val (ov_nilCheck rfl rfl) rfl rfl rfl ?_
    refine tr_val (ov_fieldAddr rfl Try.underlying65 rfl (Try.sizeOf63 _) (by decide) rfl) rfl rfl rfl ?_
    refine tr_val (ov_load_blk (H.res0 hb) rfl (Try.isAgg63 _) rfl rfl (cellsW_far hds)) rfl rfl rfl ?_
    refine tr_val (ov_nilCheck rfl rfl) rfl rfl rfl ?_
    refine tr_val (ov_fieldAddr rfl Try.underlying117 rfl (Try.sizeOf71 _) (by decide) rfl) rfl rfl rfl ?_
    refine tr_val (ov_load_blk (H.res0 hf) rfl (Try.isAgg71 _) rfl rfl rfl) rfl rfl rfl ?_
    refine tr_range H (H.res0 hm) rfl Try.underlying71 rfl rfl rfl rfl ?_
    intro r w30 H
    refine tr_nil (hK5 _ _ (TrC.keep [18, 10, 2, 0] ?_))
    show TrC _ _ _ _ [(18, _), (10, _), (2, _), (0, _)] _ _
    refine tr_block ?_
    refine tr_loop_ (X := List (Int × Thing × Nat) × Option Addr × Nat) [18, 10, 0] (fun ⟨V, A1, c1⟩ => [(2, .slice A1 (V.map (·.2.1)).length c1)]) (fun ⟨V, A1, c1⟩ w' => Vis E V ∧ SH w noBlocks [iterR r m ck (seenOf V) ck, vec A1 c1 30 3 encThing (V.map (·.2.1))] w') (fun ⟨V, A1, c1⟩ => (E.length - V.length)) (⟨[], none, 0⟩) (Sub.cons rfl (Sub.cons rfl (Sub.cons rfl (Sub.cons rfl Sub.nil)))) (⟨Vis.nil, H⟩) ?_
    rintro ⟨V, A1, c1⟩ w2 ⟨hV, H⟩ K6 hK6
    show TrC _ _ _ _ [(2, _), (18, _), (10, _), (0, _)] _ _
    refine tr_seq (fun K7 hK7 => ?_)
    -- region 4: wheel.go:207
    refine tr_region ?_
    refine tr_next H.get0 (H.res0 hm) (fun p hp => hE.old p hp) (Nat.le_refl _) rfl rfl rfl rfl rfl (fun hall => ?_) (fun e he hns wn U => ?_)
    · skip
      refine tr_val (ov_extract rfl rfl rfl) rfl rfl rfl ?_
      refine tr_nil (hK7 _ _ (TrC.keep [20, 2, 18, 10, 0] ?_))
      show TrC _ _ _ _ [(20, _), (2, _), (18, _), (10, _), (0, _)] _ _
      refine tr_seq (fun K8 hK8 => ?_)
      refine tr_cond_f rfl rfl ?_
      refine tr_exit (hK4 _ _ (TrC.keep [20, 2, 18, 10, 0] ?_))
      show TrC _ _ _ _ [(20, _), (2, _), (18, _), (10, _), (0, _)] _ _
      refine tr_seq (fun K9 hK9 => ?_)
      refine tr_seq (fun K10 hK10 => ?_)
      -- region 7: wheel.go:210
      obtain ⟨l0, hl0⟩ : ∃ l0, (V.map (·.2.1)) = l0 := ⟨_, rfl⟩
      have hp0 := all_start hW (hV.permF hE hall)
      rw [hl0] at hp0 H ⊢
      have H := H.drop0
      refine tr_region ?_
      refine tr_val (ov_move rfl rfl) rfl rfl rfl ?_
      refine tr_val (ov_nilCheck rfl rfl) rfl rfl rfl ?_
      refine tr_val (ov_fieldAddr rfl Try.underlying65 rfl (Try.sizeOf62 _) (by decide) rfl) rfl rfl rfl ?_
      refine tr_val (ov_load_blkP (vs := ds.map ptrN) (H.res0 hb) rfl (Try.isAgg62 _) (Try.sizeOf62 _) (arr_len hds) rfl rfl (cellsW_arr hds)) rfl rfl rfl ?_
      refine tr_val (ov_move rfl rfl) rfl rfl rfl ?_
      refine tr_nil (hK10 _ _ (TrC.keep [31, 30, 20, 2, 18, 10, 0] ?_))
      show TrC _ _ _ _ [(31, _), (30, _), (20, _), (2, _), (18, _), (10, _), (0, _)] _ _
      refine tr_block ?_
      refine tr_loop_ (X := Int × List Thing × Option Addr × Nat) [30, 20, 18, 10, 0] (fun ⟨i, l, A1, c1⟩ => [(31, .int .i64 i), (2, .slice A1 l.length c1)]) (fun ⟨i, l, A1, c1⟩ w' => 0 ≤ i ∧ i ≤ 4 ∧ l.Perm (X.filter (allP now i 0)) ∧ SH w noBlocks [vec A1 c1 30 3 encThing l] w') (fun ⟨i, l, A1, c1⟩ => (4 - i).toNat) (⟨0, l0, A1, c1⟩) (Sub.cons rfl (Sub.cons rfl (Sub.cons rfl (Sub.cons rfl (Sub.cons rfl (Sub.cons rfl (Sub.cons rfl Sub.nil))))))) (⟨by omega, by omega, hp0, H⟩) ?_
      rintro ⟨i, l, A1, c1⟩ w3 ⟨hi0, hi1, hpi, H⟩ K11 hK11
      show TrC _ _ _ _ [(31, _), (2, _), (30, _), (20, _), (18, _), (10, _), (0, _)] _ _
      refine tr_seq (fun K12 hK12 => ?_)
      -- region 8: wheel.go:210
      refine tr_region ?_
      refine tr_val (ov_lss rfl rfl rfl) rfl rfl rfl ?_
      refine tr_nil (hK12 _ _ (TrC.keep [32, 31, 2, 30, 20, 18, 10, 0] ?_))
      show TrC _ _ _ _ [(32, _), (31, _), (2, _), (30, _), (20, _), (18, _), (10, _), (0, _)] _ _
      refine tr_seq (fun K13 hK13 => ?_)
      refine tr_cond rfl (fun c32 => ?_) (fun c32 => ?_)
      · skip
        refine tr_skip (hK13 _ _ (TrC.keep [32, 31, 2, 30, 20, 18, 10, 0] ?_))
        show TrC _ _ _ _ [(32, _), (31, _), (2, _), (30, _), (20, _), (18, _), (10, _), (0, _)] _ _
        refine tr_seq (fun K14 hK14 => ?_)
        refine tr_block ?_
        refine tr_seq (fun K15 hK15 => ?_)
        -- region 9: wheel.go:210
        refine tr_region ?_
        refine tr_val (ov_indexArr (vs := ds.map ptrN) rfl Try.underlying62 (Try.sizeOf61 _) (Try.isAgg61 _) rfl rfl hi0 (by omega) (arr_at hds hi0 (by omega))) rfl rfl rfl ?_
        refine tr_val (ov_assign rfl rfl) rfl rfl rfl ?_
        refine tr_nil (hK15 _ _ (TrC.keep [6, 32, 31, 2, 30, 20, 18, 10, 0] ?_))
        show TrC _ _ _ _ [(6, _), (32, _), (31, _), (2, _), (30, _), (20, _), (18, _), (10, _), (0, _)] _ _
        refine tr_seq (fun K16 hK16 => ?_)
        -- region 10: wheel.go:211
        refine tr_region ?_
        refine tr_val (ov_move rfl rfl) rfl rfl rfl ?_
        refine tr_call (ringUsed_c (gt ds i) (gt Rs i) (gt Ls i) _ (hG.2.2 i hi0 (by omega)) (H.res0 (hr i hi0 (by omega)))) rfl rfl rfl Try.call60 rfl rfl rfl ?_
        rintro _ w4 ⟨rfl, HC⟩
        have H := H.call0n HC
        refine tr_val (ov_assign rfl rfl) rfl rfl rfl ?_
        refine tr_val (ov_assign rfl rfl) rfl rfl rfl ?_
        refine tr_nil (hK16 _ _ (TrC.keep [8, 7, 6, 32, 31, 2, 30, 20, 18, 10, 0] ?_))
        show TrC _ _ _ _ [(8, _), (7, _), (6, _), (32, _), (31, _), (2, _), (30, _), (20, _), (18, _), (10, _), (0, _)] _ _
        refine tr_block ?_
        refine tr_loop_ (X := Int × List Thing × Option Addr × Nat) [6, 32, 31, 30, 20, 18, 10, 0] (fun ⟨k, l, A1, c1⟩ => [(7, .int .u64 (usedN (gt Rs i) >>> k.toNat : Nat)), (8, .int .i64 k), (2, .slice A1 l.length c1)]) (fun ⟨k, l, A1, c1⟩ w' => 0 ≤ k ∧ k ≤ 64 ∧ l.Perm (X.filter (allP now i k)) ∧ SH w noBlocks [vec A1 c1 30 3 encThing l] w') (fun ⟨k, l, A1, c1⟩ => (64 - k).toNat) (⟨0, l, A1, c1⟩) (Sub.cons rfl (Sub.cons rfl (Sub.cons rfl (Sub.cons rfl (Sub.cons rfl (Sub.cons rfl (Sub.cons rfl (Sub.cons rfl (Sub.cons rfl (Sub.cons rfl (Sub.cons rfl Sub.nil))))))))))) (⟨by omega, by omega, hpi, H⟩) ?_
        rintro ⟨k, l, A1, c1⟩ w5 ⟨hk0, hk1, hpk, H⟩ K17 hK17
        show TrC _ _ _ _ [(7, _), (8, _), (2, _), (6, _), (32, _), (31, _), (30, _), (20, _), (18, _), (10, _), (0, _)] _ _
        refine tr_seq (fun K18 hK18 => ?_)
        refine tr_seq (fun K19 hK19 => ?_)
        -- region 11: wheel.go:211
        refine tr_region ?_
        refine tr_val (ov_move rfl rfl) rfl rfl rfl ?_
        refine tr_val (ov_neq rfl rfl rfl) rfl rfl rfl ?_
        refine tr_nil (hK19 _ _ (TrC.keep [37, 7, 8, 2, 6, 32, 31, 30, 20, 18, 10, 0] ?_))
        show TrC _ _ _ _ [(37, _), (7, _), (8, _), (2, _), (6, _), (32, _), (31, _), (30, _), (20, _), (18, _), (10, _), (0, _)] _ _
        refine tr_cond rfl (fun c37 => ?_) (fun c37 => ?_)
        · skip
          refine tr_skip (hK18 _ _ (TrC.keep [37, 7, 8, 2, 6, 32, 31, 30, 20, 18, 10, 0] ?_))
          show TrC _ _ _ _ [(37, _), (7, _), (8, _), (2, _), (6, _), (32, _), (31, _), (30, _), (20, _), (18, _), (10, _), (0, _)] _ _
          refine tr_seq (fun K20 hK20 => ?_)
          refine tr_block ?_
          refine tr_seq (fun K21 hK21 => ?_)
          -- region 13: wheel.go:212
          have hk64 : k < 64 := by
            apply Classical.byContradiction
            intro q
            exact c37 (by rw [shr_zero64 (hW.wf i hi0 (by omega)) (by omega)]; rfl)
          have hul := usedN_lt (hW.wf i hi0 (by omega))
          have hlen := hpk.length_eq
          have hxl := List.length_filter_le (allP now i k) X
          have hfew := hW.few
          refine tr_region ?_
          refine tr_val (ov_move rfl rfl) rfl rfl rfl ?_
          refine tr_val (ov_and rfl rfl rfl (and1_u64 _ (shr_lt hul))) rfl rfl rfl ?_
          refine tr_val (ov_eql rfl rfl rfl) rfl rfl rfl ?_
          refine tr_nil (hK21 _ _ (TrC.keep [44, 37, 7, 8, 2, 6, 32, 31, 30, 20, 18, 10, 0] ?_))
          show TrC _ _ _ _ [(44, _), (37, _), (7, _), (8, _), (2, _), (6, _), (32, _), (31, _), (30, _), (20, _), (18, _), (10, _), (0, _)] _ _
          refine tr_cond rfl (fun c44 => ?_) (fun c44 => ?_)
          · skip
            -- region 14: wheel.go:213
            refine tr_region ?_
            refine tr_val (ov_move rfl rfl) rfl rfl rfl ?_
            refine tr_val (ov_move rfl rfl) rfl rfl rfl ?_
            refine tr_val (ov_move rfl rfl) rfl rfl rfl ?_
            refine tr_call (ringLook_c (gt ds i) (gt Rs i) (gt Ls i) _ (hG.2.2 i hi0 (by omega)) (H.res0 (hr i hi0 (by omega))) k (by have := hW.small hi0 (i := i) (by omega); omega)) rfl rfl rfl Try.call61 rfl rfl rfl ?_
            rintro _ w6 ⟨A3, c3, rfl, HC⟩
            have H := H.call0r HC
            have hsl := sortT_len (slotL (gt Rs i) k)
            have hsl2 := slotL_le (gt Rs i) k
            have hsl3 := hW.small hi0 (i := i) (by omega)
            refine tr_append (M := sortT (slotL (gt Rs i) k)) H.get1 (vec_rd H.get0 lenThing (by decide)) rfl rfl rfl Try.underlying32 info30 rfl rfl (show Try.t30.bytes = 24 from rfl) rfl (by decide) lenThing oneThing (by (try unfold maxLen); omega) (by (try unfold maxLen); omega) rfl rfl rfl ?_
            intro A4 c4 w40 U; have H := H.upd1 U; clear U
            refine tr_val (ov_assign rfl rfl) rfl rfl rfl ?_
            refine tr_nil (hK20 _ _ (TrC.keep [2, 44, 37, 7, 8, 6, 32, 31, 30, 20, 18, 10, 0] ?_))
            show TrC _ _ _ _ [(2, _), (44, _), (37, _), (7, _), (8, _), (6, _), (32, _), (31, _), (30, _), (20, _), (18, _), (10, _), (0, _)] _ _
            -- region 12: wheel.go:211
            refine tr_region ?_
            refine tr_val (ov_move rfl rfl) rfl rfl rfl ?_
            refine tr_val (ov_shr rfl rfl rfl (by omega) (shr1_u64 _ hk0)) rfl rfl rfl ?_
            refine tr_val (ov_move rfl rfl) rfl rfl rfl ?_
            refine tr_val (ov_add rfl rfl rfl (w64 (by omega))) rfl rfl rfl ?_
            refine tr_val (ov_assign rfl rfl) rfl rfl rfl ?_
            refine tr_val (ov_assign rfl rfl) rfl rfl rfl ?_
            skip
            exact tr_nil (hK17 (⟨k + 1, (l ++ sortT (slotL (gt Rs i) k)), A4, c4⟩) _ _ (⟨by omega, by omega, all_step hW hi0 (by omega) hpk, H.drop0⟩) (by (dsimp only; omega)) (Sub.cons rfl (Sub.cons rfl (Sub.cons rfl (Sub.cons rfl (Sub.cons rfl (Sub.cons rfl (Sub.cons rfl (Sub.cons rfl (Sub.cons rfl (Sub.cons rfl (Sub.cons rfl Sub.nil))))))))))))
          · skip
            refine tr_skip (hK20 _ _ (TrC.keep [44, 37, 7, 8, 2, 6, 32, 31, 30, 20, 18, 10, 0] ?_))
            show TrC _ _ _ _ [(44, _), (37, _), (7, _), (8, _), (2, _), (6, _), (32, _), (31, _), (30, _), (20, _), (18, _), (10, _), (0, _)] _ _
            -- region 12: wheel.go:211
            refine tr_region ?_
            refine tr_val (ov_move rfl rfl) rfl rfl rfl ?_
            refine tr_val (ov_shr rfl rfl rfl (by omega) (shr1_u64 _ hk0)) rfl rfl rfl ?_
            refine tr_val (ov_move rfl rfl) rfl rfl rfl ?_
            refine tr_val (ov_add rfl rfl rfl (w64 (by omega))) rfl rfl rfl ?_
            refine tr_val (ov_assign rfl rfl) rfl rfl rfl ?_
            refine tr_val (ov_assign rfl rfl) rfl rfl rfl ?_
            skip
            exact tr_nil (hK17 (⟨k + 1, l, A1, c1⟩) _ _ (⟨by omega, by omega, all_skip hW hi0 (by omega) (Classical.not_not.mp (fun q => c44 ((bit_on (hW.wf i hi0 (by omega)) hk0).mpr q))) hpk, H⟩) (by (dsimp only; omega)) (Sub.cons rfl (Sub.cons rfl (Sub.cons rfl (Sub.cons rfl (Sub.cons rfl (Sub.cons rfl (Sub.cons rfl (Sub.cons rfl (Sub.cons rfl (Sub.cons rfl (Sub.cons rfl Sub.nil))))))))))))
        · skip
          refine tr_exit (hK14 _ _ (TrC.keep [37, 7, 8, 2, 6, 32, 31, 30, 20, 18, 10, 0] ?_))
          show TrC _ _ _ _ [(37, _), (7, _), (8, _), (2, _), (6, _), (32, _), (31, _), (30, _), (20, _), (18, _), (10, _), (0, _)] _ _
          -- region 15: wheel.go:210
          refine tr_region ?_
          refine tr_val (ov_add rfl rfl rfl (w64 (by omega))) rfl rfl rfl ?_
          refine tr_val (ov_move rfl rfl) rfl rfl rfl ?_
          skip
          exact tr_nil (hK11 (⟨i + 1, l, A1, c1⟩) _ _ (⟨by omega, by omega, all_next hW hi0 (by omega) hk0 (by omega) hpk, H⟩) (by (dsimp only; omega)) (Sub.cons rfl (Sub.cons rfl (Sub.cons rfl (Sub.cons rfl (Sub.cons rfl (Sub.cons rfl (Sub.cons rfl Sub.nil))))))))
      · skip
        refine tr_exit (hK9 _ _ (TrC.keep [32, 31, 2, 30, 20, 18, 10, 0] ?_))
        show TrC _ _ _ _ [(32, _), (31, _), (2, _), (30, _), (20, _), (18, _), (10, _), (0, _)] _ _
        refine tr_seq (fun K22 hK22 => ?_)
        -- region 16: wheel.go:217
        have hi : i = 4 := by omega
        subst hi
        have hfew := hW.few
        have hlen := hpi.length_eq
        have hxl := List.length_filter_le (allP now 4 0) X
        refine tr_region ?_
        refine tr_val (ov_move rfl rfl) rfl rfl rfl ?_
        refine tr_call (Sort_c A1 c1 l _ H.get0 (by omega)) rfl rfl rfl Try.call17 rfl rfl rfl ?_
        rintro _ w7 HC
        have H := H.call1 HC
        have hsl := sortT_len l
        rw [← hsl]
        rw [all_end hW hpi] at H ⊢
        refine tr_nil (hK22 _ _ (TrC.keep [32, 31, 2, 30, 20, 18, 10, 0] ?_))
        show TrC _ _ _ _ [(32, _), (31, _), (2, _), (30, _), (20, _), (18, _), (10, _), (0, _)] _ _
        refine tr_seq (fun K23 hK23 => ?_)
        -- region 17: wheel.go:218
        refine tr_region ?_
        refine tr_val (ov_move rfl rfl) rfl rfl rfl ?_
        refine tr_val (ov_assign rfl rfl) rfl rfl rfl ?_
        refine tr_nil (hK23 _ _ (TrC.keep [2, 32, 31, 30, 20, 18, 10, 0] ?_))
        show TrC _ _ _ _ [(2, _), (32, _), (31, _), (30, _), (20, _), (18, _), (10, _), (0, _)] _ _
        refine tr_ret (post_ret1 (.inr rfl) rfl rfl ?_)
        exact ⟨A1, c1, rfl, H⟩
    · skip
      have H := H.upd0 U; clear U
      have hvs := hV.snoc he hns
      have hvl := hV.lt he hns
      have hle := hE.len
      have hsf := hW.smallFar
      refine tr_val (ov_extract rfl rfl rfl) rfl rfl rfl ?_
      refine tr_nil (hK7 _ _ (TrC.keep [20, 2, 18, 10, 0] ?_))
      show TrC _ _ _ _ [(20, _), (2, _), (18, _), (10, _), (0, _)] _ _
      refine tr_seq (fun K24 hK24 => ?_)
      refine tr_cond_t rfl rfl ?_
      refine tr_skip (hK24 _ _ (TrC.keep [20, 2, 18, 10, 0] ?_))
      show TrC _ _ _ _ [(20, _), (2, _), (18, _), (10, _), (0, _)] _ _
      refine tr_block ?_
      refine tr_seq (fun K25 hK25 => ?_)
      -- region 5: wheel.go:207
      refine tr_region ?_
      refine tr_val (ov_entry (seen := seenOf V) H.get0 (H.res0 hm) he hE.born rfl rfl) rfl rfl rfl ?_
      refine tr_val (ov_extract rfl rfl rfl) rfl rfl rfl ?_
      refine tr_alloc H rfl (Try.zeroValue30 _) rfl rfl rfl rfl ?_
      intro b1 w8 hb1 H
      (refine tr_storeW H.get0 rfl (Try.sizeOf30 _) rfl rfl rfl rfl rfl rfl rfl rfl ?_; intro w9 U; have H := H.upd0 U; clear U)
      refine tr_nil (hK25 _ _ (TrC.keep [4, 20, 2, 18, 10, 0] ?_))
      show TrC _ _ _ _ [(4, _), (20, _), (2, _), (18, _), (10, _), (0, _)] _ _
      -- region 6: wheel.go:208
      rw [seen_push] at H
      refine tr_region ?_
      refine tr_val (ov_move rfl rfl) rfl rfl rfl ?_
      refine tr_val (ov_load_blkN H.get0 rfl (Try.isAgg30 _) (Try.sizeOf30 _) rfl rfl rfl) rfl rfl rfl ?_
      refine tr_buildSlice H rfl Try.underlying32 info30 rfl (fun ρ k => bs1 k rfl) (by decide) (by decide) (fill_Thing_1 _ _ _) rfl rfl rfl ?_
      intro b6 wb60 hb6 H
      refine tr_append (M := [e.2.1]) H.get3 (rd_blk ([e.2.1]) H.get0 rfl lenThing) rfl rfl rfl Try.underlying32 info30 rfl rfl (show Try.t30.bytes = 24 from rfl) rfl (by decide) lenThing oneThing (by rw [List.length_map]; simp; omega) (by rw [List.length_map]; simp [maxLen]; omega) rfl rfl rfl ?_
      intro A6 c6 w60 U; have H := H.upd3 U; clear U
      refine tr_val (ov_assign rfl rfl) rfl rfl rfl ?_
      have H := H.drop0.drop0
      rw [vals_snoc] at H
      exact tr_nil (hK6 (⟨(V ++ [e]), A6, c6⟩) _ _ (⟨hvs, H⟩) (by simp; omega) (Sub.consE rfl (by rw [vals_snoc]) (Sub.cons rfl (Sub.cons rfl (Sub.cons rfl Sub.nil)))))

/-! (*curfew/wheel.Wheel).All -/
set_option maxRecDepth 20000 in
theorem wAll_n (p : Option Addr) (w : World) (hp : NoWheel w p) : Does Try.prog 18 #[.pointer p] w (fun v w' => v = .slice none 0 0 ∧ SH w noBlocks [] w') := by
  refine does_enter1 Try.func18 rfl Try.ntmps18 rfl ?_
  have H := SH.start w noBlocks
  refine tr_seq (fun K1 hK1 => ?_)
  -- region 0: wheel.go:203
  refine tr_region ?_
  refine tr_val (ov_assign rfl rfl) rfl rfl rfl ?_
  refine tr_nil (hK1 _ _ (TrC.keep [2, 0] ?_))
  show TrC _ _ _ _ [(2, _), (0, _)] _ _
  refine tr_seq (fun K2 hK2 => ?_)
  refine tr_seq (fun K3 hK3 => ?_)
  -- region 1: wheel.go:204
  refine tr_region ?_
  refine tr_val (ov_move rfl rfl) rfl rfl rfl ?_
  refine tr_call (wnone_n p _ (hp.later H)) rfl rfl rfl Try.call54 rfl rfl rfl ?_
  rintro _ w1 ⟨rfl, HC⟩
  have H := H.call0n HC
  refine tr_nil (hK3 _ _ (TrC.keep [10, 2, 0] ?_))
  show TrC _ _ _ _ [(10, _), (2, _), (0, _)] _ _
  refine tr_condb rfl (fun c10 => ?_) (fun c10 => ?_)
  · skip
    refine tr_seq (fun K4 hK4 => ?_)
    -- region 2: wheel.go:205
    refine tr_region ?_
    refine tr_val (ov_assign rfl rfl) rfl rfl rfl ?_
    refine tr_nil (hK4 _ _ (TrC.keep [2, 10, 0] ?_))
    show TrC _ _ _ _ [(2, _), (10, _), (0, _)] _ _
    refine tr_ret (post_ret1 (.inr rfl) rfl rfl ?_)
    exact ⟨rfl, H⟩
  · cases c10

def nextD (X : List Thing) : Value := if X.length = 0 then .tuple #[.int .i64 0, .bool false] else .tuple #[.int .i64 (gt (sortT X) 0).due, .bool true]

/-! (*curfew/wheel.Wheel).Next -/
set_option maxRecDepth 20000 in
theorem wNext_c (d : Nat) (now : Int) (X : List Thing) (L : List Res) (w : World) (hX : WheelX 65 117 161 30 d now X L) (hO : (pack L).holds w) : Does Try.prog 26 #[.pointer (some ⟨d, 0, none⟩)] w (fun v w' => v = nextD X ∧ SH w noBlocks [] w') := by
  have hsl := sortT_len X
  refine does_enter1 Try.func26 rfl Try.ntmps26 rfl ?_
  have H := SH.start w noBlocks
  refine tr_seq (fun K1 hK1 => ?_)
  -- region 0: wheel.go:222
  refine tr_region ?_
  refine tr_val (ov_assign rfl rfl) rfl rfl rfl ?_
  refine tr_val (ov_assign rfl rfl) rfl rfl rfl ?_
  refine tr_nil (hK1 _ _ (TrC.keep [3, 2, 0] ?_))
  show TrC _ _ _ _ [(3, _), (2, _), (0, _)] _ _
  refine tr_seq (fun K2 hK2 => ?_)
  -- region 1: wheel.go:223
  refine tr_region ?_
  refine tr_val (ov_move rfl rfl) rfl rfl rfl ?_
  refine tr_call (wAll_c d now X L _ hX (H.res0 hO)) rfl rfl rfl Try.call18 rfl rfl rfl ?_
  rintro _ w1 ⟨A1, c1, rfl, HC⟩
  have H := H.call0r HC
  refine tr_val (ov_assign rfl rfl) rfl rfl rfl ?_
  refine tr_nil (hK2 _ _ (TrC.keep [4, 3, 2] ?_))
  show TrC _ _ _ _ [(4, _), (3, _), (2, _)] _ _
  refine tr_seq (fun K3 hK3 => ?_)
  refine tr_seq (fun K4 hK4 => ?_)
  -- region 2: wheel.go:224
  refine tr_region ?_
  refine tr_val (ov_move rfl rfl) rfl rfl rfl ?_
  refine tr_val (ov_len rfl rfl Try.underlying32 rfl) rfl rfl rfl ?_
  refine tr_val (ov_eql rfl rfl rfl) rfl rfl rfl ?_
  refine tr_nil (hK4 _ _ (TrC.keep [9, 4, 3, 2] ?_))
  show TrC _ _ _ _ [(9, _), (4, _), (3, _), (2, _)] _ _
  refine tr_cond rfl (fun c9 => ?_) (fun c9 => ?_)
  · skip
    refine tr_seq (fun K5 hK5 => ?_)
    -- region 3: wheel.go:225
    refine tr_region ?_
    refine tr_val (ov_assign rfl rfl) rfl rfl rfl ?_
    refine tr_val (ov_assign rfl rfl) rfl rfl rfl ?_
    refine tr_nil (hK5 _ _ (TrC.keep [3, 2, 9, 4] ?_))
    show TrC _ _ _ _ [(3, _), (2, _), (9, _), (4, _)] _ _
    refine tr_ret (post_ret2 (.inr rfl) rfl rfl rfl ?_)
    unfold nextD; rw [if_pos (by omega)]; exact ⟨rfl, H.drop0⟩
  · skip
    refine tr_skip (hK3 _ _ (TrC.keep [9, 4, 3, 2] ?_))
    show TrC _ _ _ _ [(9, _), (4, _), (3, _), (2, _)] _ _
    refine tr_seq (fun K6 hK6 => ?_)
    -- region 4: wheel.go:227
    refine tr_region ?_
    refine tr_val (ov_move rfl rfl) rfl rfl rfl ?_
    refine tr_val (ov_indexAddrR (vec_rd H.get0 lenThing (by decide)) rfl Try.underlying32 (Try.sizeOf30 _) rfl rfl (by omega) (by omega)) rfl rfl rfl ?_
    refine tr_val (ov_fieldAddr rfl Try.underlying30 rfl (Try.sizeOf2 _) (by decide) rfl) rfl rfl rfl ?_
    refine tr_val (ld_Thing_2 (vec_rd H.get0 lenThing (by decide)) rfl (Try.isAgg2 _) rfl (by omega) (by omega)) rfl rfl rfl ?_
    refine tr_val (ov_assign rfl rfl) rfl rfl rfl ?_
    refine tr_val (ov_assign rfl rfl) rfl rfl rfl ?_
    refine tr_nil (hK6 _ _ (TrC.keep [3, 2, 9, 4] ?_))
    show TrC _ _ _ _ [(3, _), (2, _), (9, _), (4, _)] _ _
    refine tr_ret (post_ret2 (.inr rfl) rfl rfl rfl ?_)
    unfold nextD; rw [if_neg (by omega)]; exact ⟨rfl, H.drop0⟩

/-! (*curfew/wheel.Wheel).Next -/
set_option maxRecDepth 20000 in
theorem wNext_n (p : Option Addr) (w : World) (hp : NoWheel w p) : Does Try.prog 26 #[.pointer p] w (fun v w' => v = .tuple #[.int .i64 0, .bool false] ∧ SH w noBlocks [] w') := by
  refine does_enter1 Try.func26 rfl Try.ntmps26 rfl ?_
  have H := SH.start w noBlocks
  refine tr_seq (fun K1 hK1 => ?_)
  -- region 0: wheel.go:222
  refine tr_region ?_
  refine tr_val (ov_assign rfl rfl) rfl rfl rfl ?_
  refine tr_val (ov_assign rfl rfl) rfl rfl rfl ?_
  refine tr_nil (hK1 _ _ (TrC.keep [3, 2, 0] ?_))
  show TrC _ _ _ _ [(3, _), (2, _), (0, _)] _ _
  refine tr_seq (fun K2 hK2 => ?_)
  -- region 1: wheel.go:223
  refine tr_region ?_
  refine tr_val (ov_move rfl rfl) rfl rfl rfl ?_
  refine tr_call (wAll_n p _ hp) rfl rfl rfl Try.call18 rfl rfl rfl ?_
  rintro _ w1 ⟨rfl, HC⟩
  have H := H.call0n HC
  refine tr_val (ov_assign rfl rfl) rfl rfl rfl ?_
  refine tr_nil (hK2 _ _ (TrC.keep [4, 3, 2] ?_))
  show TrC _ _ _ _ [(4, _), (3, _), (2, _)] _ _
  refine tr_seq (fun K3 hK3 => ?_)
  refine tr_seq (fun K4 hK4 => ?_)
  -- region 2: wheel.go:224
  refine tr_region ?_
  refine tr_val (ov_move rfl rfl) rfl rfl rfl ?_
  refine tr_val (ov_len rfl rfl Try.underlying32 rfl) rfl rfl rfl ?_
  refine tr_val (ov_eql rfl rfl rfl) rfl rfl rfl ?_
  refine tr_nil (hK4 _ _ (TrC.keep [9, 4, 3, 2] ?_))
  show TrC _ _ _ _ [(9, _), (4, _), (3, _), (2, _)] _ _
  refine tr_cond rfl (fun c9 => ?_) (fun c9 => ?_)
  · skip
    refine tr_seq (fun K5 hK5 => ?_)
    -- region 3: wheel.go:225
    refine tr_region ?_
    refine tr_val (ov_assign rfl rfl) rfl rfl rfl ?_
    refine tr_val (ov_assign rfl rfl) rfl rfl rfl ?_
    refine tr_nil (hK5 _ _ (TrC.keep [3, 2, 9, 4] ?_))
    show TrC _ _ _ _ [(3, _), (2, _), (9, _), (4, _)] _ _
    refine tr_ret (post_ret2 (.inr rfl) rfl rfl rfl ?_)
    exact ⟨rfl, H⟩
  · exact absurd rfl c9

/-! (*curfew/wheel.Wheel).late -/
set_option maxRecDepth 20000 in
theorem wlate_c (d : Nat) (now : Int) (X : List Thing) (L : List Res) (w : World) (hX : WheelX 65 117 161 30 d now X L) (hO : (pack L).holds w) : Does Try.prog 56 #[.pointer (some ⟨d, 0, none⟩)] w (fun v w' => ∃ A' c' l, v = .slice A' l.length c' ∧ l.Perm (X.filter fun t => decide (t.due ≤ now)) ∧ ∃ L', WheelX 65 117 161 30 d now (X.filter fun t => decide (now < t.due)) L' ∧ SH w (pack L).foot [vec A' c' 30 3 encThing l, pack L'] w') := by
  refine does_enter1 Try.func56 rfl Try.ntmps56 rfl ?_
  have H := SH.own1 hO
  refine tr_seq (fun K1 hK1 => ?_)
  -- region 0: wheel.go:192
  refine tr_region ?_
  refine tr_val (ov_assign rfl rfl) rfl rfl rfl ?_
  refine tr_nil (hK1 _ _ (TrC.keep [2, 0] ?_))
  show TrC _ _ _ _ [(2, _), (0, _)] _ _
  refine tr_seq (fun K2 hK2 => ?_)
  refine tr_seq (fun K3 hK3 => ?_)
  -- region 1: wheel.go:193
  obtain ⟨Rs, Fv, hW, hM⟩ := hX
  obtain ⟨f, m, ds, E, ck, Ls, hG, hE, rfl⟩ := hM
  have hds := hG.1
  have H := SH.unpackL [] H
  change SH w _ (blk d 65 (cellsW now ds f) :: blk f 117 [.map (some m)] :: mapT m E ck :: Ls.map pack) _ at H
  have H := H.addNil 30 3 encThing
  have hkE := hE.keys hW.keys
  refine tr_region ?_
  refine tr_val (ov_move rfl rfl) rfl rfl rfl ?_
  refine tr_val (ov_nilCheck rfl rfl) rfl rfl rfl ?_
  refine tr_val (ov_fieldAddr rfl Try.underlying65 rfl (Try.sizeOf63 _) (by decide) rfl) rfl rfl rfl ?_
  refine tr_val (ov_load_blk H.get1 rfl (Try.isAgg63 _) rfl rfl (cellsW_far hds)) rfl rfl rfl ?_
  refine tr_val (ov_nilCheck rfl rfl) rfl rfl rfl ?_
  refine tr_val (ov_fieldAddr rfl Try.underlying117 rfl (Try.sizeOf71 _) (by decide) rfl) rfl rfl rfl ?_
  refine tr_val (ov_load_blk H.get2 rfl (Try.isAgg71 _) rfl rfl rfl) rfl rfl rfl ?_
  refine tr_range H H.get3 rfl Try.underlying71 rfl rfl rfl rfl ?_
  intro r w30 H
  refine tr_nil (hK3 _ _ (TrC.keep [12, 2, 0] ?_))
  show TrC _ _ _ _ [(12, _), (2, _), (0, _)] _ _
  refine tr_block ?_
  refine tr_loop_ (X := List (Int × Thing × Nat) × List (Int × Thing × Nat) × Option Addr × Nat) [12, 0] (fun ⟨V, Ec, A1, c1⟩ => [(2, .slice A1 (lateOf now V).length c1)]) (fun ⟨V, Ec, A1, c1⟩ w' => LateInv now E V Ec ∧ SH w (pack (wheelL 65 117 d f m now ds E ck Ls)).foot (iterR r m ck (seenOf V) ck :: vec A1 c1 30 3 encThing (lateOf now V) :: blk d 65 (cellsW now ds f) :: blk f 117 [.map (some m)] :: mapT m Ec ck :: Ls.map pack) w') (fun ⟨V, Ec, A1, c1⟩ => (E.length - V.length)) (⟨[], E, none, 0⟩) (Sub.cons rfl (Sub.cons rfl (Sub.cons rfl Sub.nil))) (⟨late_start, H⟩) ?_
  rintro ⟨V, Ec, A1, c1⟩ w1 ⟨hV, H⟩ K4 hK4
  show TrC _ _ _ _ [(2, _), (12, _), (0, _)] _ _
  refine tr_seq (fun K5 hK5 => ?_)
  -- region 2: wheel.go:193
  refine tr_region ?_
  refine tr_next H.get0 H.get4 (fun p hp => hE.old p (hV.2.1.subset hp)) (Nat.le_refl _) rfl rfl rfl rfl rfl (fun hall => ?_) (fun e he hns wn U => ?_)
  · skip
    refine tr_val (ov_extract rfl rfl rfl) rfl rfl rfl ?_
    refine tr_nil (hK5 _ _ (TrC.keep [14, 2, 12, 0] ?_))
    show TrC _ _ _ _ [(14, _), (2, _), (12, _), (0, _)] _ _
    refine tr_seq (fun K6 hK6 => ?_)
    refine tr_cond_f rfl rfl ?_
    refine tr_exit (hK2 _ _ (TrC.keep [14, 2, 12, 0] ?_))
    show TrC _ _ _ _ [(14, _), (2, _), (12, _), (0, _)] _ _
    refine tr_seq (fun K7 hK7 => ?_)
    -- region 7: wheel.go:199
    refine tr_region ?_
    refine tr_val (ov_move rfl rfl) rfl rfl rfl ?_
    refine tr_val (ov_assign rfl rfl) rfl rfl rfl ?_
    refine tr_nil (hK7 _ _ (TrC.keep [2, 14, 12, 0] ?_))
    show TrC _ _ _ _ [(2, _), (14, _), (12, _), (0, _)] _ _
    refine tr_ret (post_ret1 (.inr rfl) rfl rfl ?_)
    obtain ⟨q1, q2, q3⟩ := late_end hV hE hall hW
    exact ⟨A1, c1, _, rfl, q1, _, ⟨Rs, _, q3, f, m, ds, Ec, ck, Ls, hG, q2, rfl⟩, SH.packL [_] H.drop0⟩
  · skip
    have H := H.upd0 U; clear U
    have hvl := hV.1.lt (hV.2.1.subset he) hns
    have hle := hE.len
    have hsf := hW.smallFar
    have hll := lateOf_le (now := now) hV.1
    refine tr_val (ov_extract rfl rfl rfl) rfl rfl rfl ?_
    refine tr_nil (hK5 _ _ (TrC.keep [14, 2, 12, 0] ?_))
    show TrC _ _ _ _ [(14, _), (2, _), (12, _), (0, _)] _ _
    refine tr_seq (fun K8 hK8 => ?_)
    refine tr_cond_t rfl rfl ?_
    refine tr_skip (hK8 _ _ (TrC.keep [14, 2, 12, 0] ?_))
    show TrC _ _ _ _ [(14, _), (2, _), (12, _), (0, _)] _ _
    refine tr_block ?_
    refine tr_seq (fun K9 hK9 => ?_)
    -- region 3: wheel.go:193
    refine tr_region ?_
    refine tr_val (ov_entry (seen := seenOf V) H.get0 H.get4 he (List.Nodup.sublist (hV.2.1.map _) hE.born) rfl rfl) rfl rfl rfl ?_
    refine tr_val (ov_extract rfl rfl rfl) rfl rfl rfl ?_
    refine tr_val (ov_extract rfl rfl rfl) rfl rfl rfl ?_
    refine tr_alloc H rfl (Try.zeroValue30 _) rfl rfl rfl rfl ?_
    intro b1 w2 hb1 H
    refine tr_val (ov_assign rfl rfl) rfl rfl rfl ?_
    (refine tr_storeW H.get0 rfl (Try.sizeOf30 _) rfl rfl rfl rfl rfl rfl rfl rfl ?_; intro w3 U; have H := H.upd0 U; clear U)
    refine tr_nil (hK9 _ _ (TrC.keep [3, 4, 14, 2, 12, 0] ?_))
    show TrC _ _ _ _ [(3, _), (4, _), (14, _), (2, _), (12, _), (0, _)] _ _
    refine tr_seq (fun K10 hK10 => ?_)
    -- region 4: wheel.go:194
    rw [seen_push] at H
    refine tr_quiet mixed (by kernel_rfl) H ?_
    refine tq_val (fun _ H => ov_fieldAddr rfl Try.underlying30 rfl (Try.sizeOf2 _) (by decide) rfl) rfl rfl rfl ?_
    refine tq_val (fun _ H => ov_load_blk H.get0 rfl (Try.isAgg2 _) rfl rfl rfl) rfl rfl rfl ?_
    refine tq_val (fun _ H => ov_move rfl rfl) rfl rfl rfl ?_
    refine tq_val (fun _ H => ov_nilCheck rfl rfl) rfl rfl rfl ?_
    refine tq_val (fun _ H => ov_fieldAddr rfl Try.underlying65 rfl (Try.sizeOf2 _) (by decide) rfl) rfl rfl rfl ?_
    refine tq_val (fun _ H => ov_load_blk H.get3 rfl (Try.isAgg2 _) rfl rfl rfl) rfl rfl rfl ?_
    refine tq_val (fun _ H => ov_leq rfl rfl rfl) rfl rfl rfl ?_
    refine tq_nil ?_
    intro w4 H
    refine hK10 _ _ (TrC.keep [24, 3, 4, 14, 2, 12, 0] ?_)
    show TrC _ _ _ _ [(24, _), (3, _), (4, _), (14, _), (2, _), (12, _), (0, _)] _ _
    refine tr_cond rfl (fun c24 => ?_) (fun c24 => ?_)
    · skip
      refine tr_seq (fun K11 hK11 => ?_)
      -- region 5: wheel.go:195
      refine tr_region ?_
      refine tr_val (ov_move rfl rfl) rfl rfl rfl ?_
      refine tr_val (ov_load_blkN H.get0 rfl (Try.isAgg30 _) (Try.sizeOf30 _) rfl rfl rfl) rfl rfl rfl ?_
      refine tr_buildSlice H rfl Try.underlying32 info30 rfl (fun ρ k => bs1 k rfl) (by decide) (by decide) (fill_Thing_1 _ _ _) rfl rfl rfl ?_
      intro b6 wb60 hb6 H
      refine tr_append (M := [e.2.1]) H.get3 (rd_blk ([e.2.1]) H.get0 rfl lenThing) rfl rfl rfl Try.underlying32 info30 rfl rfl (show Try.t30.bytes = 24 from rfl) rfl (by decide) lenThing oneThing (by rw [List.length_singleton]; (try unfold maxLen); omega) (by rw [List.length_singleton]; (try unfold maxLen); omega) rfl rfl rfl ?_
      intro A6 c6 w60 U; have H := H.upd3 U; clear U
      refine tr_val (ov_assign rfl rfl) rfl rfl rfl ?_
      refine tr_nil (hK11 _ _ (TrC.keep [2, 24, 3, 4, 14, 12, 0] ?_))
      show TrC _ _ _ _ [(2, _), (24, _), (3, _), (4, _), (14, _), (12, _), (0, _)] _ _
      -- region 6: wheel.go:196
      refine tr_region ?_
      refine tr_val (ov_move rfl rfl) rfl rfl rfl ?_
      refine tr_val (ov_nilCheck rfl rfl) rfl rfl rfl ?_
      refine tr_val (ov_fieldAddr rfl Try.underlying65 rfl (Try.sizeOf63 _) (by decide) rfl) rfl rfl rfl ?_
      refine tr_val (ov_load_blk H.get4 rfl (Try.isAgg63 _) rfl rfl (cellsW_far hds)) rfl rfl rfl ?_
      refine tr_val (ov_nilCheck rfl rfl) rfl rfl rfl ?_
      refine tr_val (ov_fieldAddr rfl Try.underlying117 rfl (Try.sizeOf71 _) (by decide) rfl) rfl rfl rfl ?_
      refine tr_val (ov_load_blk H.get5 rfl (Try.isAgg71 _) rfl rfl rfl) rfl rfl rfl ?_
      refine tr_val (ov_move rfl rfl) rfl rfl rfl ?_
      refine tr_mapDel H.get6 rfl rfl Try.underlying71 Try.underlying28 rfl rfl rfl rfl ?_
      intro w19 U; have H := H.upd6 U; clear U
      have H := H.drop0.drop0
      rw [← lateOf_in c24] at H
      exact tr_nil (hK4 (⟨(V ++ [e]), (mdel e.1 Ec), A6, c6⟩) _ _ (⟨late_in hV hkE he hns c24, H⟩) (by simp; omega) (Sub.consE rfl (by rw [lateOf_in c24]) (Sub.cons rfl (Sub.cons rfl Sub.nil))))
    · skip
      have H := H.drop0
      rw [← lateOf_out (V := V) c24] at H
      exact tr_skip (hK4 (⟨(V ++ [e]), Ec, A1, c1⟩) _ _ (⟨late_out hV he hns c24, H⟩) (by simp; omega) (Sub.consE rfl (by rw [lateOf_out c24]) (Sub.cons rfl (Sub.cons rfl Sub.nil))))

end Go.Proofs.Ytblipnjjgbggiaa
