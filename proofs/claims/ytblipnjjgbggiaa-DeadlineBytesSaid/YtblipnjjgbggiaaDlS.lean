/- Contracts of wheel.Wheel: curfewref13 and do of law 13. Conditions: none. -/
import Derived.Test.YtblipnjjgbggiaaDlC
namespace Go.Proofs.Ytblipnjjgbggiaa
open Go Go.RowKit
set_option linter.unusedVariables false
set_option linter.unusedSimpArgs false

theorem not_take {X : List Thing} {f : Thing → Int} {i : Int} (h0 : 0 ≤ i) (h1 : i ≤ X.length) {y : Int} (h : ∀ j : Int, 0 ≤ j → j < i → f (gt X j) ≠ y) : y ∉ (X.take i.toNat).map f := by
  intro q
  obtain ⟨t, ht, e⟩ := List.mem_map.mp q
  obtain ⟨k, hk, he⟩ := List.mem_iff_getElem.mp ht
  have hk' : k < i.toNat := by rw [List.length_take] at hk; omega
  refine h (k : Int) (by omega) (by omega) ?_
  rw [gt_eq (by omega) (by omega), ← e, ← he]
  simp
theorem in_take {X : List Thing} {f : Thing → Int} {i k : Int} (h0 : 0 ≤ k) (h1 : k < i) (h2 : i ≤ X.length) : f (gt X k) ∈ (X.take i.toNat).map f := by
  refine List.mem_map.mpr ⟨gt X k, ?_, rfl⟩
  rw [← gt_take h0 h1 h2]
  exact gt_mem h0 (by rw [List.length_take]; omega)
theorem bookX_perm {b : Nat} {now last : Int} {X Y : List Thing} {L : List Res} (h : BookX b now last X L) (p : X.Perm Y) : BookX b now last Y L := by
  obtain ⟨h0, h1, d, Lw, hW, e⟩ := h
  exact ⟨h0, h1, d, Lw, wheelX_perm hW p, e⟩
theorem bookX_of {b : Nat} {now last : Int} {X : List Thing} {L : List Res} (h : BookX b now last X L) : Ids X ∧ (∀ t, t ∈ X → 0 ≤ t.due ∧ t.due ≤ 1125899906842624) ∧ X.length ≤ 256 ∧ (0 ≤ now ∧ now ≤ 1125899906842624) ∧ (0 ≤ last ∧ last ≤ 1152921504606846976) := by
  obtain ⟨h0, h1, d, Lw, ⟨Rs, Fv, hW, hM⟩, e⟩ := h
  exact ⟨hW.ids, hW.dues, hW.few, hW.now0, h0, h1⟩

/-! curfew/curfewref13.Sound -/
set_option maxRecDepth 20000 in
theorem SoundR_c (B : Option Addr) (c : Nat) (W : List RThing) (now last : Int) (w : World) (hR : Rd w B 4 (W.map encRThing)) (hl : W.length ≤ 60000) : Does Try.prog 37 #[.agg #[.int .i64 now, .int .u64 last, .slice B (W).length c]] w (fun v w' => v = .bool (sndB now last (W.map plainR)) ∧ SH w noBlocks [] w') := by
  obtain ⟨X, hX⟩ : ∃ X, W.map plainR = X := ⟨_, rfl⟩
  rw [hX]
  have hlen : X.length = W.length := by rw [← hX, List.length_map]
  have hg : ∀ k : Int, 0 ≤ k → k < W.length → gt X k = plainR (gt W k) := fun k h0 h1 => by rw [← hX]; exact gt_map plainR h0 h1
  refine does_enter1 Try.func37 rfl Try.ntmps37 rfl ?_
  have H := SH.start w noBlocks
  refine tr_seq (fun K1 hK1 => ?_)
  -- region 0: ref.go:26
  refine tr_region ?_
  refine tr_box H rfl rfl rfl rfl rfl rfl ?_
  intro b1 w1 hb1 H
  refine tr_val (ov_assign rfl rfl) rfl rfl rfl ?_
  refine tr_nil (hK1 _ _ (TrC.keep [2, 1] ?_))
  show TrC _ _ _ _ [(2, _), (1, _)] _ _
  refine tr_seq (fun K2 hK2 => ?_)
  refine tr_seq (fun K3 hK3 => ?_)
  -- region 1: ref.go:27
  refine tr_cut [2, 1] [(24, .bool (decide (now < 0 ∨ 1125899906842624 < now ∨ 1152921504606846976 < last ∨ 256 < (W.length : Int))))] (fun w' => SH w noBlocks [blk b1 85 [.int .i64 now, .int .u64 last, .slice B (W).length c]] w') (fun K4 hK4 => ?_) (fun w2 H => ?_)
  · skip
    refine tr_val (ov_fieldAddr rfl Try.underlying85 rfl (Try.sizeOf2 _) (by decide) rfl) rfl rfl rfl ?_
    refine tr_val (ov_load_blk H.get0 rfl (Try.isAgg2 _) rfl rfl rfl) rfl rfl rfl ?_
    refine tr_val (ov_lss rfl rfl rfl) rfl rfl rfl ?_
    refine tr_val (ov_move rfl rfl) rfl rfl rfl ?_
    refine tr_split (t := 9) rfl (fun s9 => ?_) (fun s9 => ?_)
    · skip
      refine tr_pass rfl rfl rfl ?_
      refine tr_pass rfl rfl rfl ?_
      refine tr_pass rfl rfl rfl ?_
      refine tr_val (ov_pick (vb := undef) rfl rfl rfl rfl) rfl rfl rfl ?_
      refine tr_val (ov_move rfl rfl) rfl rfl rfl ?_
      refine tr_pass rfl rfl rfl ?_
      refine tr_pass rfl rfl rfl ?_
      refine tr_pass rfl rfl rfl ?_
      refine tr_val (ov_pick (vb := undef) rfl rfl rfl rfl) rfl rfl rfl ?_
      refine tr_val (ov_move rfl rfl) rfl rfl rfl ?_
      refine tr_pass rfl rfl rfl ?_
      refine tr_pass rfl rfl rfl ?_
      refine tr_pass rfl rfl rfl ?_
      refine tr_pass rfl rfl rfl ?_
      refine tr_val (ov_pick (vb := undef) rfl rfl rfl rfl) rfl rfl rfl ?_
      exact tr_nil (hK4 _ _ (Sub.consE rfl (congrArg Value.bool (by exact eqT (by skip; omega))) (Sub.cons rfl (Sub.cons rfl Sub.nil))) (H))
    · skip
      refine tr_val (ov_fieldAddr rfl Try.underlying85 rfl (Try.sizeOf2 _) (by decide) rfl) rfl rfl rfl ?_
      refine tr_val (ov_load_blk H.get0 rfl (Try.isAgg2 _) rfl rfl rfl) rfl rfl rfl ?_
      refine tr_val (ov_gtr rfl rfl rfl) rfl rfl rfl ?_
      refine tr_val (ov_pick_f (va := undef) rfl rfl rfl rfl) rfl rfl rfl ?_
      refine tr_val (ov_move rfl rfl) rfl rfl rfl ?_
      refine tr_split (t := 14) rfl (fun s14 => ?_) (fun s14 => ?_)
      · skip
        refine tr_pass rfl rfl rfl ?_
        refine tr_pass rfl rfl rfl ?_
        refine tr_pass rfl rfl rfl ?_
        refine tr_val (ov_pick (vb := undef) rfl rfl rfl rfl) rfl rfl rfl ?_
        refine tr_val (ov_move rfl rfl) rfl rfl rfl ?_
        refine tr_pass rfl rfl rfl ?_
        refine tr_pass rfl rfl rfl ?_
        refine tr_pass rfl rfl rfl ?_
        refine tr_pass rfl rfl rfl ?_
        refine tr_val (ov_pick (vb := undef) rfl rfl rfl rfl) rfl rfl rfl ?_
        exact tr_nil (hK4 _ _ (Sub.consE rfl (congrArg Value.bool (by exact eqT (by skip; omega))) (Sub.cons rfl (Sub.cons rfl Sub.nil))) (H))
      · skip
        refine tr_val (ov_fieldAddr rfl Try.underlying85 rfl (Try.sizeOf28 _) (by decide) rfl) rfl rfl rfl ?_
        refine tr_val (ov_load_blk H.get0 rfl (Try.isAgg28 _) rfl rfl rfl) rfl rfl rfl ?_
        refine tr_val (ov_gtr rfl rfl rfl) rfl rfl rfl ?_
        refine tr_val (ov_pick_f (va := undef) rfl rfl rfl rfl) rfl rfl rfl ?_
        refine tr_val (ov_move rfl rfl) rfl rfl rfl ?_
        refine tr_split (t := 19) rfl (fun s19 => ?_) (fun s19 => ?_)
        · skip
          refine tr_pass rfl rfl rfl ?_
          refine tr_pass rfl rfl rfl ?_
          refine tr_pass rfl rfl rfl ?_
          refine tr_pass rfl rfl rfl ?_
          refine tr_val (ov_pick (vb := undef) rfl rfl rfl rfl) rfl rfl rfl ?_
          exact tr_nil (hK4 _ _ (Sub.consE rfl (congrArg Value.bool (by exact eqT (by skip; omega))) (Sub.cons rfl (Sub.cons rfl Sub.nil))) (H))
        · skip
          refine tr_val (ov_fieldAddr rfl Try.underlying85 rfl (Try.sizeOf46 _) (by decide) rfl) rfl rfl rfl ?_
          refine tr_val (ov_load_blk H.get0 rfl (Try.isAgg46 _) rfl rfl rfl) rfl rfl rfl ?_
          refine tr_val (ov_len rfl rfl Try.underlying46 rfl) rfl rfl rfl ?_
          refine tr_val (ov_gtr rfl rfl rfl) rfl rfl rfl ?_
          refine tr_val (ov_pick_f (va := undef) rfl rfl rfl rfl) rfl rfl rfl ?_
          exact tr_nil (hK4 _ _ (Sub.consE rfl (congrArg Value.bool (by exact eqI (by skip; omega))) (Sub.cons rfl (Sub.cons rfl Sub.nil))) (H))
  · skip
    refine hK3 _ _ (TrC.keep [24, 2, 1] ?_)
    show TrC _ _ _ _ [(24, _), (2, _), (1, _)] _ _
    refine tr_cond rfl (fun c24 => ?_) (fun c24 => ?_)
    · skip
      refine tr_seq (fun K5 hK5 => ?_)
      -- region 2: ref.go:28
      refine tr_region ?_
      refine tr_val (ov_assign rfl rfl) rfl rfl rfl ?_
      refine tr_nil (hK5 _ _ (TrC.keep [2, 24, 1] ?_))
      show TrC _ _ _ _ [(2, _), (24, _), (1, _)] _ _
      refine tr_ret (post_ret1 (.inr rfl) rfl rfl ?_)
      (exact ⟨congrArg Value.bool (sndB_false (fun q => by have := q.1; have := q.2.1; have := q.2.2.1; omega)).symm, H.drop0⟩)
    · skip
      refine tr_skip (hK2 _ _ (TrC.keep [24, 2, 1] ?_))
      show TrC _ _ _ _ [(24, _), (2, _), (1, _)] _ _
      refine tr_seq (fun K6 hK6 => ?_)
      refine tr_seq (fun K7 hK7 => ?_)
      -- region 3: ref.go:30
      refine tr_region ?_
      refine tr_val (ov_assign rfl rfl) rfl rfl rfl ?_
      refine tr_nil (hK7 _ _ (TrC.keep [3, 24, 2, 1] ?_))
      show TrC _ _ _ _ [(3, _), (24, _), (2, _), (1, _)] _ _
      refine tr_block ?_
      refine tr_loop_ (X := Int) [24, 1] (fun i => [(3, .int .i64 i)]) (fun i w' => 0 ≤ i ∧ i ≤ W.length ∧ SndT last (X.take i.toNat) ∧ SH w noBlocks [blk b1 85 [.int .i64 now, .int .u64 last, .slice B (W).length c]] w') (fun i => (W.length - i).toNat) (0) (Sub.cons rfl (Sub.cons rfl (Sub.cons rfl Sub.nil))) (⟨by omega, by omega, SndT.nil, H⟩) ?_
      rintro i w3 ⟨hi0, hi1, hs, H⟩ K8 hK8
      show TrC _ _ _ _ [(3, _), (24, _), (1, _)] _ _
      refine tr_seq (fun K9 hK9 => ?_)
      refine tr_seq (fun K10 hK10 => ?_)
      -- region 4: ref.go:30
      refine tr_region ?_
      refine tr_val (ov_move rfl rfl) rfl rfl rfl ?_
      refine tr_val (ov_fieldAddr rfl Try.underlying85 rfl (Try.sizeOf46 _) (by decide) rfl) rfl rfl rfl ?_
      refine tr_val (ov_load_blk H.get0 rfl (Try.isAgg46 _) rfl rfl rfl) rfl rfl rfl ?_
      refine tr_val (ov_len rfl rfl Try.underlying46 rfl) rfl rfl rfl ?_
      refine tr_val (ov_lss rfl rfl rfl) rfl rfl rfl ?_
      refine tr_nil (hK10 _ _ (TrC.keep [29, 3, 24, 1] ?_))
      show TrC _ _ _ _ [(29, _), (3, _), (24, _), (1, _)] _ _
      refine tr_cond rfl (fun c29 => ?_) (fun c29 => ?_)
      · skip
        refine tr_skip (hK9 _ _ (TrC.keep [29, 3, 24, 1] ?_))
        show TrC _ _ _ _ [(29, _), (3, _), (24, _), (1, _)] _ _
        refine tr_seq (fun K11 hK11 => ?_)
        refine tr_block ?_
        refine tr_seq (fun K12 hK12 => ?_)
        -- region 6: ref.go:31
        refine tr_region ?_
        refine tr_val (ov_fieldAddr rfl Try.underlying85 rfl (Try.sizeOf46 _) (by decide) rfl) rfl rfl rfl ?_
        refine tr_val (ov_load_blk H.get0 rfl (Try.isAgg46 _) rfl rfl rfl) rfl rfl rfl ?_
        refine tr_val (ov_move rfl rfl) rfl rfl rfl ?_
        refine tr_val (ov_indexAddrR (H.rd0 hR) rfl Try.underlying46 (Try.sizeOf59 _) rfl rfl (by omega) (by omega)) rfl rfl rfl ?_
        refine tr_val (ld_RThing (H.rd0 hR) rfl (Try.isAgg59 _) (Try.sizeOf59 _) rfl (by omega) (by omega)) rfl rfl rfl ?_
        refine tr_alloc H rfl (Try.zeroValue59 _) rfl rfl rfl rfl ?_
        intro b2 w4 hb2 H
        (refine tr_storeW H.get0 rfl (Try.sizeOf59 _) rfl rfl rfl rfl rfl rfl rfl rfl ?_; intro w5 U; have H := H.upd0 U; clear U)
        refine tr_nil (hK12 _ _ (TrC.keep [4, 29, 3, 24, 1] ?_))
        show TrC _ _ _ _ [(4, _), (29, _), (3, _), (24, _), (1, _)] _ _
        refine tr_seq (fun K13 hK13 => ?_)
        refine tr_seq (fun K14 hK14 => ?_)
        -- region 7: ref.go:32
        have hgi := hg i hi0 (by omega)
        have e1 : (gt X i).gen = (gt W i).gen := by rw [hgi]; rfl
        have e2 : (gt X i).due = (gt W i).due := by rw [hgi]; rfl
        have e3 : (gt X i).id = (gt W i).id := by rw [hgi]; rfl
        have hgp : 0 < i → gt X (i - 1) = plainR (gt W (i - 1)) := fun q => hg _ (by omega) (by omega)
        refine tr_quiet mixed (by kernel_rfl) H ?_
        refine tq_val (fun _ H => ov_fieldAddr rfl Try.underlying59 rfl (Try.sizeOf28 _) (by decide) rfl) rfl rfl rfl ?_
        refine tq_val (fun _ H => ov_load_blk H.get0 rfl (Try.isAgg28 _) rfl rfl rfl) rfl rfl rfl ?_
        refine tq_val (fun _ H => ov_lss rfl rfl rfl) rfl rfl rfl ?_
        refine tq_val (fun _ H => ov_move rfl rfl) rfl rfl rfl ?_
        refine tq_split (t := 40) rfl (fun s40 => ?_) (fun s40 => ?_)
        · skip
          refine tq_pass rfl rfl rfl ?_
          refine tq_pass rfl rfl rfl ?_
          refine tq_pass rfl rfl rfl ?_
          refine tq_pass rfl rfl rfl ?_
          refine tq_pass rfl rfl rfl ?_
          refine tq_val (fun _ H => ov_pick (vb := undef) rfl rfl rfl rfl) rfl rfl rfl ?_
          refine tq_val (fun _ H => ov_move rfl rfl) rfl rfl rfl ?_
          refine tq_pass rfl rfl rfl ?_
          refine tq_pass rfl rfl rfl ?_
          refine tq_pass rfl rfl rfl ?_
          refine tq_val (fun _ H => ov_pick (vb := undef) rfl rfl rfl rfl) rfl rfl rfl ?_
          refine tq_val (fun _ H => ov_move rfl rfl) rfl rfl rfl ?_
          refine tq_pass rfl rfl rfl ?_
          refine tq_pass rfl rfl rfl ?_
          refine tq_pass rfl rfl rfl ?_
          refine tq_val (fun _ H => ov_pick (vb := undef) rfl rfl rfl rfl) rfl rfl rfl ?_
          refine tq_val (fun _ H => ov_move rfl rfl) rfl rfl rfl ?_
          refine tq_pass rfl rfl rfl ?_
          refine tq_pass rfl rfl rfl ?_
          refine tq_pass rfl rfl rfl ?_
          refine tq_pass rfl rfl rfl ?_
          refine tq_pass rfl rfl rfl ?_
          refine tq_pass rfl rfl rfl ?_
          refine tq_pass rfl rfl rfl ?_
          refine tq_pass rfl rfl rfl ?_
          refine tq_pass rfl rfl rfl ?_
          refine tq_pass rfl rfl rfl ?_
          refine tq_pass rfl rfl rfl ?_
          refine tq_pass rfl rfl rfl ?_
          refine tq_pass rfl rfl rfl ?_
          refine tq_val (fun _ H => ov_pick (vb := undef) rfl rfl rfl rfl) rfl rfl rfl ?_
          refine tq_nil ?_
          intro w6 H
          refine hK14 _ _ (TrC.keep [71, 4, 29, 3, 24, 1] ?_)
          show TrC _ _ _ _ [(71, _), (4, _), (29, _), (3, _), (24, _), (1, _)] _ _
          refine tr_cond_t rfl rfl ?_
          refine tr_seq (fun K15 hK15 => ?_)
          -- region 8: ref.go:33
          refine tr_region ?_
          refine tr_val (ov_assign rfl rfl) rfl rfl rfl ?_
          refine tr_nil (hK15 _ _ (TrC.keep [2, 71, 4, 29, 3, 24, 1] ?_))
          show TrC _ _ _ _ [(2, _), (71, _), (4, _), (29, _), (3, _), (24, _), (1, _)] _ _
          refine tr_ret (post_ret1 (.inr rfl) rfl rfl ?_)
          (exact ⟨congrArg Value.bool (snd_not (X := X) hi0 (by omega) (fun q1 q2 q3 q4 => by have q1' := q1; unfold okT at q1'; omega)), H.drop0.drop0⟩)
        · skip
          refine tq_val (fun _ H => ov_fieldAddr rfl Try.underlying59 rfl (Try.sizeOf28 _) (by decide) rfl) rfl rfl rfl ?_
          refine tq_val (fun _ H => ov_load_blk H.get0 rfl (Try.isAgg28 _) rfl rfl rfl) rfl rfl rfl ?_
          refine tq_val (fun _ H => ov_fieldAddr rfl Try.underlying85 rfl (Try.sizeOf28 _) (by decide) rfl) rfl rfl rfl ?_
          refine tq_val (fun _ H => ov_load_blk H.get1 rfl (Try.isAgg28 _) rfl rfl rfl) rfl rfl rfl ?_
          refine tq_val (fun _ H => ov_gtr rfl rfl rfl) rfl rfl rfl ?_
          refine tq_val (fun _ H => ov_pick_f (va := undef) rfl rfl rfl rfl) rfl rfl rfl ?_
          refine tq_val (fun _ H => ov_move rfl rfl) rfl rfl rfl ?_
          refine tq_split (t := 47) rfl (fun s47 => ?_) (fun s47 => ?_)
          · skip
            refine tq_pass rfl rfl rfl ?_
            refine tq_pass rfl rfl rfl ?_
            refine tq_pass rfl rfl rfl ?_
            refine tq_val (fun _ H => ov_pick (vb := undef) rfl rfl rfl rfl) rfl rfl rfl ?_
            refine tq_val (fun _ H => ov_move rfl rfl) rfl rfl rfl ?_
            refine tq_pass rfl rfl rfl ?_
            refine tq_pass rfl rfl rfl ?_
            refine tq_pass rfl rfl rfl ?_
            refine tq_val (fun _ H => ov_pick (vb := undef) rfl rfl rfl rfl) rfl rfl rfl ?_
            refine tq_val (fun _ H => ov_move rfl rfl) rfl rfl rfl ?_
            refine tq_pass rfl rfl rfl ?_
            refine tq_pass rfl rfl rfl ?_
            refine tq_pass rfl rfl rfl ?_
            refine tq_pass rfl rfl rfl ?_
            refine tq_pass rfl rfl rfl ?_
            refine tq_pass rfl rfl rfl ?_
            refine tq_pass rfl rfl rfl ?_
            refine tq_pass rfl rfl rfl ?_
            refine tq_pass rfl rfl rfl ?_
            refine tq_pass rfl rfl rfl ?_
            refine tq_pass rfl rfl rfl ?_
            refine tq_pass rfl rfl rfl ?_
            refine tq_pass rfl rfl rfl ?_
            refine tq_val (fun _ H => ov_pick (vb := undef) rfl rfl rfl rfl) rfl rfl rfl ?_
            refine tq_nil ?_
            intro w7 H
            refine hK14 _ _ (TrC.keep [71, 4, 29, 3, 24, 1] ?_)
            show TrC _ _ _ _ [(71, _), (4, _), (29, _), (3, _), (24, _), (1, _)] _ _
            refine tr_cond_t rfl rfl ?_
            refine tr_seq (fun K16 hK16 => ?_)
            -- region 8: ref.go:33
            refine tr_region ?_
            refine tr_val (ov_assign rfl rfl) rfl rfl rfl ?_
            refine tr_nil (hK16 _ _ (TrC.keep [2, 71, 4, 29, 3, 24, 1] ?_))
            show TrC _ _ _ _ [(2, _), (71, _), (4, _), (29, _), (3, _), (24, _), (1, _)] _ _
            refine tr_ret (post_ret1 (.inr rfl) rfl rfl ?_)
            (exact ⟨congrArg Value.bool (snd_not (X := X) hi0 (by omega) (fun q1 q2 q3 q4 => by have q1' := q1; unfold okT at q1'; omega)), H.drop0.drop0⟩)
          · skip
            refine tq_val (fun _ H => ov_fieldAddr rfl Try.underlying59 rfl (Try.sizeOf2 _) (by decide) rfl) rfl rfl rfl ?_
            refine tq_val (fun _ H => ov_load_blk H.get0 rfl (Try.isAgg2 _) rfl rfl rfl) rfl rfl rfl ?_
            refine tq_val (fun _ H => ov_lss rfl rfl rfl) rfl rfl rfl ?_
            refine tq_val (fun _ H => ov_pick_f (va := undef) rfl rfl rfl rfl) rfl rfl rfl ?_
            refine tq_val (fun _ H => ov_move rfl rfl) rfl rfl rfl ?_
            refine tq_split (t := 52) rfl (fun s52 => ?_) (fun s52 => ?_)
            · skip
              refine tq_pass rfl rfl rfl ?_
              refine tq_pass rfl rfl rfl ?_
              refine tq_pass rfl rfl rfl ?_
              refine tq_val (fun _ H => ov_pick (vb := undef) rfl rfl rfl rfl) rfl rfl rfl ?_
              refine tq_val (fun _ H => ov_move rfl rfl) rfl rfl rfl ?_
              refine tq_pass rfl rfl rfl ?_
              refine tq_pass rfl rfl rfl ?_
              refine tq_pass rfl rfl rfl ?_
              refine tq_pass rfl rfl rfl ?_
              refine tq_pass rfl rfl rfl ?_
              refine tq_pass rfl rfl rfl ?_
              refine tq_pass rfl rfl rfl ?_
              refine tq_pass rfl rfl rfl ?_
              refine tq_pass rfl rfl rfl ?_
              refine tq_pass rfl rfl rfl ?_
              refine tq_pass rfl rfl rfl ?_
              refine tq_pass rfl rfl rfl ?_
              refine tq_pass rfl rfl rfl ?_
              refine tq_val (fun _ H => ov_pick (vb := undef) rfl rfl rfl rfl) rfl rfl rfl ?_
              refine tq_nil ?_
              intro w8 H
              refine hK14 _ _ (TrC.keep [71, 4, 29, 3, 24, 1] ?_)
              show TrC _ _ _ _ [(71, _), (4, _), (29, _), (3, _), (24, _), (1, _)] _ _
              refine tr_cond_t rfl rfl ?_
              refine tr_seq (fun K17 hK17 => ?_)
              -- region 8: ref.go:33
              refine tr_region ?_
              refine tr_val (ov_assign rfl rfl) rfl rfl rfl ?_
              refine tr_nil (hK17 _ _ (TrC.keep [2, 71, 4, 29, 3, 24, 1] ?_))
              show TrC _ _ _ _ [(2, _), (71, _), (4, _), (29, _), (3, _), (24, _), (1, _)] _ _
              refine tr_ret (post_ret1 (.inr rfl) rfl rfl ?_)
              (exact ⟨congrArg Value.bool (snd_not (X := X) hi0 (by omega) (fun q1 q2 q3 q4 => by have q1' := q1; unfold okT at q1'; omega)), H.drop0.drop0⟩)
            · skip
              refine tq_val (fun _ H => ov_fieldAddr rfl Try.underlying59 rfl (Try.sizeOf2 _) (by decide) rfl) rfl rfl rfl ?_
              refine tq_val (fun _ H => ov_load_blk H.get0 rfl (Try.isAgg2 _) rfl rfl rfl) rfl rfl rfl ?_
              refine tq_val (fun _ H => ov_gtr rfl rfl rfl) rfl rfl rfl ?_
              refine tq_val (fun _ H => ov_pick_f (va := undef) rfl rfl rfl rfl) rfl rfl rfl ?_
              refine tq_val (fun _ H => ov_move rfl rfl) rfl rfl rfl ?_
              refine tq_split (t := 57) rfl (fun s57 => ?_) (fun s57 => ?_)
              · skip
                refine tq_pass rfl rfl rfl ?_
                refine tq_pass rfl rfl rfl ?_
                refine tq_pass rfl rfl rfl ?_
                refine tq_pass rfl rfl rfl ?_
                refine tq_pass rfl rfl rfl ?_
                refine tq_pass rfl rfl rfl ?_
                refine tq_pass rfl rfl rfl ?_
                refine tq_pass rfl rfl rfl ?_
                refine tq_pass rfl rfl rfl ?_
                refine tq_pass rfl rfl rfl ?_
                refine tq_pass rfl rfl rfl ?_
                refine tq_pass rfl rfl rfl ?_
                refine tq_pass rfl rfl rfl ?_
                refine tq_val (fun _ H => ov_pick (vb := undef) rfl rfl rfl rfl) rfl rfl rfl ?_
                refine tq_nil ?_
                intro w9 H
                refine hK14 _ _ (TrC.keep [71, 4, 29, 3, 24, 1] ?_)
                show TrC _ _ _ _ [(71, _), (4, _), (29, _), (3, _), (24, _), (1, _)] _ _
                refine tr_cond_t rfl rfl ?_
                refine tr_seq (fun K18 hK18 => ?_)
                -- region 8: ref.go:33
                refine tr_region ?_
                refine tr_val (ov_assign rfl rfl) rfl rfl rfl ?_
                refine tr_nil (hK18 _ _ (TrC.keep [2, 71, 4, 29, 3, 24, 1] ?_))
                show TrC _ _ _ _ [(2, _), (71, _), (4, _), (29, _), (3, _), (24, _), (1, _)] _ _
                refine tr_ret (post_ret1 (.inr rfl) rfl rfl ?_)
                (exact ⟨congrArg Value.bool (snd_not (X := X) hi0 (by omega) (fun q1 q2 q3 q4 => by have q1' := q1; unfold okT at q1'; omega)), H.drop0.drop0⟩)
              · skip
                refine tq_val (fun _ H => ov_move rfl rfl) rfl rfl rfl ?_
                refine tq_val (fun _ H => ov_gtr rfl rfl rfl) rfl rfl rfl ?_
                refine tq_val (fun _ H => ov_move rfl rfl) rfl rfl rfl ?_
                refine tq_split (t := 60) rfl (fun s60 => ?_) (fun s60 => ?_)
                · skip
                  refine tq_val (fun _ H => ov_fieldAddr rfl Try.underlying85 rfl (Try.sizeOf46 _) (by decide) rfl) rfl rfl rfl ?_
                  refine tq_val (fun _ H => ov_load_blk H.get1 rfl (Try.isAgg46 _) rfl rfl rfl) rfl rfl rfl ?_
                  refine tq_val (fun _ H => ov_move rfl rfl) rfl rfl rfl ?_
                  refine tq_val (fun _ H => ov_sub rfl rfl rfl (w64 (by omega))) rfl rfl rfl ?_
                  refine tq_val (fun _ H => ov_indexAddrR (H.rd0 hR) rfl Try.underlying46 (Try.sizeOf59 _) rfl rfl (by omega) (by omega)) rfl rfl rfl ?_
                  refine tq_val (fun _ H => ld_RThing (H.rd0 hR) rfl (Try.isAgg59 _) (Try.sizeOf59 _) rfl (by omega) (by omega)) rfl rfl rfl ?_
                  refine tq_val (fun _ H => ov_load_blkN H.get0 rfl (Try.isAgg59 _) (Try.sizeOf59 _) rfl rfl rfl) rfl rfl rfl ?_
                  refine tq_call (fun _ H => (BeforeR_c (gt W (i - 1)) (gt W i) _).mono (fun _ _ hq => ⟨hq.1, H.call0n hq.2⟩)) rfl rfl rfl Try.call73 rfl rfl rfl ?_
                  refine tq_val (fun _ H => ov_not rfl rfl) rfl rfl rfl ?_
                  refine tq_val (fun _ H => ov_pick (vb := undef) rfl rfl rfl rfl) rfl rfl rfl ?_
                  refine tq_val (fun _ H => ov_pick_f (va := undef) rfl rfl rfl rfl) rfl rfl rfl ?_
                  refine tq_nil ?_
                  intro w10 H
                  refine hK14 _ _ (TrC.keep [71, 4, 29, 3, 24, 1] ?_)
                  show TrC _ _ _ _ [(71, _), (4, _), (29, _), (3, _), (24, _), (1, _)] _ _
                  refine tr_cond rfl (fun c71 => ?_) (fun c71 => ?_)
                  · skip
                    refine tr_seq (fun K19 hK19 => ?_)
                    -- region 8: ref.go:33
                    refine tr_region ?_
                    refine tr_val (ov_assign rfl rfl) rfl rfl rfl ?_
                    refine tr_nil (hK19 _ _ (TrC.keep [2, 71, 4, 29, 3, 24, 1] ?_))
                    show TrC _ _ _ _ [(2, _), (71, _), (4, _), (29, _), (3, _), (24, _), (1, _)] _ _
                    refine tr_ret (post_ret1 (.inr rfl) rfl rfl ?_)
                    (exact ⟨congrArg Value.bool (snd_not (X := X) hi0 (by omega) (fun q1 q2 q3 q4 => by have q1' := q1; unfold okT at q1'; (have q5 := q2 (by omega); rw [hgp (by omega), hgi] at q5; exact c71 q5))), H.drop0.drop0⟩)
                  · skip
                    refine tr_skip (hK13 _ _ (TrC.keep [71, 4, 29, 3, 24, 1] ?_))
                    show TrC _ _ _ _ [(71, _), (4, _), (29, _), (3, _), (24, _), (1, _)] _ _
                    refine tr_seq (fun K20 hK20 => ?_)
                    -- region 9: ref.go:35
                    refine tr_region ?_
                    refine tr_val (ov_assign rfl rfl) rfl rfl rfl ?_
                    refine tr_nil (hK20 _ _ (TrC.keep [5, 71, 4, 29, 3, 24, 1] ?_))
                    show TrC _ _ _ _ [(5, _), (71, _), (4, _), (29, _), (3, _), (24, _), (1, _)] _ _
                    refine tr_block ?_
                    refine tr_loop_ (X := Int) [71, 4, 29, 3, 24, 1] (fun k => [(5, .int .i64 k)]) (fun k w' => 0 ≤ k ∧ k ≤ i ∧ (∀ j : Int, 0 ≤ j → j < k → (gt X j).id ≠ (gt X i).id ∧ (gt X j).gen ≠ (gt X i).gen) ∧ SH w noBlocks [blk b2 59 [.int .u64 (gt W i).id, .int .u64 (gt W i).gen, .int .i64 (gt W i).due, .int .i64 (gt W i).slot], blk b1 85 [.int .i64 now, .int .u64 last, .slice B (W).length c]] w') (fun k => (i - k).toNat) (0) (Sub.cons rfl (Sub.cons rfl (Sub.cons rfl (Sub.cons rfl (Sub.cons rfl (Sub.cons rfl (Sub.cons rfl Sub.nil))))))) (⟨by omega, by omega, fun j h0 h1 => by omega, H⟩) ?_
                    rintro k w11 ⟨hk0, hk1, hn, H⟩ K21 hK21
                    show TrC _ _ _ _ [(5, _), (71, _), (4, _), (29, _), (3, _), (24, _), (1, _)] _ _
                    refine tr_seq (fun K22 hK22 => ?_)
                    refine tr_seq (fun K23 hK23 => ?_)
                    -- region 10: ref.go:35
                    refine tr_region ?_
                    refine tr_val (ov_move rfl rfl) rfl rfl rfl ?_
                    refine tr_val (ov_move rfl rfl) rfl rfl rfl ?_
                    refine tr_val (ov_lss rfl rfl rfl) rfl rfl rfl ?_
                    refine tr_nil (hK23 _ _ (TrC.keep [74, 5, 71, 4, 29, 3, 24, 1] ?_))
                    show TrC _ _ _ _ [(74, _), (5, _), (71, _), (4, _), (29, _), (3, _), (24, _), (1, _)] _ _
                    refine tr_cond rfl (fun c74 => ?_) (fun c74 => ?_)
                    · skip
                      refine tr_skip (hK22 _ _ (TrC.keep [74, 5, 71, 4, 29, 3, 24, 1] ?_))
                      show TrC _ _ _ _ [(74, _), (5, _), (71, _), (4, _), (29, _), (3, _), (24, _), (1, _)] _ _
                      refine tr_seq (fun K24 hK24 => ?_)
                      refine tr_block ?_
                      refine tr_seq (fun K25 hK25 => ?_)
                      -- region 12: ref.go:36
                      have hgk := hg k hk0 (by omega)
                      have f1 : (gt X k).gen = (gt W k).gen := by rw [hgk]; rfl
                      have f2 : (gt X k).id = (gt W k).id := by rw [hgk]; rfl
                      refine tr_quiet mixed (by kernel_rfl) H ?_
                      refine tq_val (fun _ H => ov_fieldAddr rfl Try.underlying85 rfl (Try.sizeOf46 _) (by decide) rfl) rfl rfl rfl ?_
                      refine tq_val (fun _ H => ov_load_blk H.get1 rfl (Try.isAgg46 _) rfl rfl rfl) rfl rfl rfl ?_
                      refine tq_val (fun _ H => ov_move rfl rfl) rfl rfl rfl ?_
                      refine tq_val (fun _ H => ov_indexAddrR (H.rd0 hR) rfl Try.underlying46 (Try.sizeOf59 _) rfl rfl (by omega) (by omega)) rfl rfl rfl ?_
                      refine tq_val (fun _ H => ov_fieldAddr rfl Try.underlying59 rfl (Try.sizeOf28 _) (by decide) rfl) rfl rfl rfl ?_
                      refine tq_val (fun _ H => ld_RThing_0 (H.rd0 hR) rfl (Try.isAgg28 _) rfl (by omega) (by omega)) rfl rfl rfl ?_
                      refine tq_val (fun _ H => ov_fieldAddr rfl Try.underlying59 rfl (Try.sizeOf28 _) (by decide) rfl) rfl rfl rfl ?_
                      refine tq_val (fun _ H => ov_load_blk H.get0 rfl (Try.isAgg28 _) rfl rfl rfl) rfl rfl rfl ?_
                      refine tq_val (fun _ H => ov_eql rfl rfl rfl) rfl rfl rfl ?_
                      refine tq_val (fun _ H => ov_move rfl rfl) rfl rfl rfl ?_
                      refine tq_split (t := 86) rfl (fun s86 => ?_) (fun s86 => ?_)
                      · skip
                        refine tq_pass rfl rfl rfl ?_
                        refine tq_pass rfl rfl rfl ?_
                        refine tq_pass rfl rfl rfl ?_
                        refine tq_pass rfl rfl rfl ?_
                        refine tq_pass rfl rfl rfl ?_
                        refine tq_pass rfl rfl rfl ?_
                        refine tq_pass rfl rfl rfl ?_
                        refine tq_pass rfl rfl rfl ?_
                        refine tq_pass rfl rfl rfl ?_
                        refine tq_val (fun _ H => ov_pick (vb := undef) rfl rfl rfl rfl) rfl rfl rfl ?_
                        refine tq_nil ?_
                        intro w12 H
                        refine hK25 _ _ (TrC.keep [96, 74, 5, 71, 4, 29, 3, 24, 1] ?_)
                        show TrC _ _ _ _ [(96, _), (74, _), (5, _), (71, _), (4, _), (29, _), (3, _), (24, _), (1, _)] _ _
                        refine tr_cond_t rfl rfl ?_
                        refine tr_seq (fun K26 hK26 => ?_)
                        -- region 13: ref.go:37
                        refine tr_region ?_
                        refine tr_val (ov_assign rfl rfl) rfl rfl rfl ?_
                        refine tr_nil (hK26 _ _ (TrC.keep [2, 96, 74, 5, 71, 4, 29, 3, 24, 1] ?_))
                        show TrC _ _ _ _ [(2, _), (96, _), (74, _), (5, _), (71, _), (4, _), (29, _), (3, _), (24, _), (1, _)] _ _
                        refine tr_ret (post_ret1 (.inr rfl) rfl rfl ?_)
                        (exact ⟨congrArg Value.bool (snd_not (X := X) hi0 (by omega) (fun q1 q2 q3 q4 => by have q1' := q1; unfold okT at q1'; exact q3 (by rw [e3, ← s86, ← f2]; exact in_take (f := (·.id)) hk0 (by omega) (by omega)))), H.drop0.drop0⟩)
                      · skip
                        refine tq_val (fun _ H => ov_fieldAddr rfl Try.underlying85 rfl (Try.sizeOf46 _) (by decide) rfl) rfl rfl rfl ?_
                        refine tq_val (fun _ H => ov_load_blk H.get1 rfl (Try.isAgg46 _) rfl rfl rfl) rfl rfl rfl ?_
                        refine tq_val (fun _ H => ov_move rfl rfl) rfl rfl rfl ?_
                        refine tq_val (fun _ H => ov_indexAddrR (H.rd0 hR) rfl Try.underlying46 (Try.sizeOf59 _) rfl rfl (by omega) (by omega)) rfl rfl rfl ?_
                        refine tq_val (fun _ H => ov_fieldAddr rfl Try.underlying59 rfl (Try.sizeOf28 _) (by decide) rfl) rfl rfl rfl ?_
                        refine tq_val (fun _ H => ld_RThing_1 (H.rd0 hR) rfl (Try.isAgg28 _) rfl (by omega) (by omega)) rfl rfl rfl ?_
                        refine tq_val (fun _ H => ov_fieldAddr rfl Try.underlying59 rfl (Try.sizeOf28 _) (by decide) rfl) rfl rfl rfl ?_
                        refine tq_val (fun _ H => ov_load_blk H.get0 rfl (Try.isAgg28 _) rfl rfl rfl) rfl rfl rfl ?_
                        refine tq_val (fun _ H => ov_eql rfl rfl rfl) rfl rfl rfl ?_
                        refine tq_val (fun _ H => ov_pick_f (va := undef) rfl rfl rfl rfl) rfl rfl rfl ?_
                        refine tq_nil ?_
                        intro w13 H
                        refine hK25 _ _ (TrC.keep [96, 74, 5, 71, 4, 29, 3, 24, 1] ?_)
                        show TrC _ _ _ _ [(96, _), (74, _), (5, _), (71, _), (4, _), (29, _), (3, _), (24, _), (1, _)] _ _
                        refine tr_cond rfl (fun c96 => ?_) (fun c96 => ?_)
                        · skip
                          refine tr_seq (fun K27 hK27 => ?_)
                          -- region 13: ref.go:37
                          refine tr_region ?_
                          refine tr_val (ov_assign rfl rfl) rfl rfl rfl ?_
                          refine tr_nil (hK27 _ _ (TrC.keep [2, 96, 74, 5, 71, 4, 29, 3, 24, 1] ?_))
                          show TrC _ _ _ _ [(2, _), (96, _), (74, _), (5, _), (71, _), (4, _), (29, _), (3, _), (24, _), (1, _)] _ _
                          refine tr_ret (post_ret1 (.inr rfl) rfl rfl ?_)
                          (exact ⟨congrArg Value.bool (snd_not (X := X) hi0 (by omega) (fun q1 q2 q3 q4 => by have q1' := q1; unfold okT at q1'; exact q4 (by rw [e1, ← c96, ← f1]; exact in_take (f := (·.gen)) hk0 (by omega) (by omega)))), H.drop0.drop0⟩)
                        · skip
                          refine tr_skip (hK24 _ _ (TrC.keep [96, 74, 5, 71, 4, 29, 3, 24, 1] ?_))
                          show TrC _ _ _ _ [(96, _), (74, _), (5, _), (71, _), (4, _), (29, _), (3, _), (24, _), (1, _)] _ _
                          -- region 11: ref.go:35
                          refine tr_region ?_
                          refine tr_val (ov_move rfl rfl) rfl rfl rfl ?_
                          refine tr_val (ov_add rfl rfl rfl (w64 (by omega))) rfl rfl rfl ?_
                          refine tr_val (ov_assign rfl rfl) rfl rfl rfl ?_
                          skip
                          exact tr_nil (hK21 (k + 1) _ _ (⟨by omega, by omega, fun j h0 h1 => (by by_cases e : j = k; (subst e; exact ⟨by omega, by omega⟩); exact hn j h0 (by omega)), H⟩) (by omega) (Sub.cons rfl (Sub.cons rfl (Sub.cons rfl (Sub.cons rfl (Sub.cons rfl (Sub.cons rfl (Sub.cons rfl Sub.nil))))))))
                    · skip
                      refine tr_exit (hK11 _ _ (TrC.keep [74, 5, 71, 4, 29, 3, 24, 1] ?_))
                      show TrC _ _ _ _ [(74, _), (5, _), (71, _), (4, _), (29, _), (3, _), (24, _), (1, _)] _ _
                      -- region 5: ref.go:30
                      refine tr_region ?_
                      refine tr_val (ov_move rfl rfl) rfl rfl rfl ?_
                      refine tr_val (ov_add rfl rfl rfl (w64 (by omega))) rfl rfl rfl ?_
                      refine tr_val (ov_assign rfl rfl) rfl rfl rfl ?_
                      skip
                      exact tr_nil (hK8 (i + 1) _ _ (⟨by omega, by omega, (snd_iff hi0 (by omega)).mpr ⟨hs, ⟨by omega, by omega, by omega, by omega⟩, fun hi => (by (rw [hgp hi, hgi]; exact Classical.not_not.mp c71)), not_take (f := (·.id)) hi0 (by omega) (fun j j0 j1 => (hn j j0 (by omega)).1), not_take (f := (·.gen)) hi0 (by omega) (fun j j0 j1 => (hn j j0 (by omega)).2)⟩, H.drop0⟩) (by omega) (Sub.cons rfl (Sub.cons rfl (Sub.cons rfl Sub.nil))))
                · skip
                  refine tq_pass rfl rfl rfl ?_
                  refine tq_pass rfl rfl rfl ?_
                  refine tq_pass rfl rfl rfl ?_
                  refine tq_pass rfl rfl rfl ?_
                  refine tq_pass rfl rfl rfl ?_
                  refine tq_pass rfl rfl rfl ?_
                  refine tq_pass rfl rfl rfl ?_
                  refine tq_pass rfl rfl rfl ?_
                  refine tq_pass rfl rfl rfl ?_
                  refine tq_val (fun _ H => ov_pick_f (va := undef) rfl rfl rfl rfl) rfl rfl rfl ?_
                  refine tq_val (fun _ H => ov_pick_f (va := undef) rfl rfl rfl rfl) rfl rfl rfl ?_
                  refine tq_nil ?_
                  intro w14 H
                  refine hK14 _ _ (TrC.keep [71, 4, 29, 3, 24, 1] ?_)
                  show TrC _ _ _ _ [(71, _), (4, _), (29, _), (3, _), (24, _), (1, _)] _ _
                  refine tr_cond_f rfl rfl ?_
                  refine tr_skip (hK13 _ _ (TrC.keep [71, 4, 29, 3, 24, 1] ?_))
                  show TrC _ _ _ _ [(71, _), (4, _), (29, _), (3, _), (24, _), (1, _)] _ _
                  refine tr_seq (fun K28 hK28 => ?_)
                  -- region 9: ref.go:35
                  refine tr_region ?_
                  refine tr_val (ov_assign rfl rfl) rfl rfl rfl ?_
                  refine tr_nil (hK28 _ _ (TrC.keep [5, 71, 4, 29, 3, 24, 1] ?_))
                  show TrC _ _ _ _ [(5, _), (71, _), (4, _), (29, _), (3, _), (24, _), (1, _)] _ _
                  refine tr_block ?_
                  refine tr_loop_ (X := Int) [71, 4, 29, 3, 24, 1] (fun k => [(5, .int .i64 k)]) (fun k w' => 0 ≤ k ∧ k ≤ i ∧ (∀ j : Int, 0 ≤ j → j < k → (gt X j).id ≠ (gt X i).id ∧ (gt X j).gen ≠ (gt X i).gen) ∧ SH w noBlocks [blk b2 59 [.int .u64 (gt W i).id, .int .u64 (gt W i).gen, .int .i64 (gt W i).due, .int .i64 (gt W i).slot], blk b1 85 [.int .i64 now, .int .u64 last, .slice B (W).length c]] w') (fun k => (i - k).toNat) (0) (Sub.cons rfl (Sub.cons rfl (Sub.cons rfl (Sub.cons rfl (Sub.cons rfl (Sub.cons rfl (Sub.cons rfl Sub.nil))))))) (⟨by omega, by omega, fun j h0 h1 => by omega, H⟩) ?_
                  rintro k w15 ⟨hk0, hk1, hn, H⟩ K29 hK29
                  show TrC _ _ _ _ [(5, _), (71, _), (4, _), (29, _), (3, _), (24, _), (1, _)] _ _
                  refine tr_seq (fun K30 hK30 => ?_)
                  refine tr_seq (fun K31 hK31 => ?_)
                  -- region 10: ref.go:35
                  refine tr_region ?_
                  refine tr_val (ov_move rfl rfl) rfl rfl rfl ?_
                  refine tr_val (ov_move rfl rfl) rfl rfl rfl ?_
                  refine tr_val (ov_lss rfl rfl rfl) rfl rfl rfl ?_
                  refine tr_nil (hK31 _ _ (TrC.keep [74, 5, 71, 4, 29, 3, 24, 1] ?_))
                  show TrC _ _ _ _ [(74, _), (5, _), (71, _), (4, _), (29, _), (3, _), (24, _), (1, _)] _ _
                  refine tr_cond rfl (fun c74 => ?_) (fun c74 => ?_)
                  · skip
                    refine tr_skip (hK30 _ _ (TrC.keep [74, 5, 71, 4, 29, 3, 24, 1] ?_))
                    show TrC _ _ _ _ [(74, _), (5, _), (71, _), (4, _), (29, _), (3, _), (24, _), (1, _)] _ _
                    refine tr_seq (fun K32 hK32 => ?_)
                    refine tr_block ?_
                    refine tr_seq (fun K33 hK33 => ?_)
                    -- region 12: ref.go:36
                    have hgk := hg k hk0 (by omega)
                    have f1 : (gt X k).gen = (gt W k).gen := by rw [hgk]; rfl
                    have f2 : (gt X k).id = (gt W k).id := by rw [hgk]; rfl
                    refine tr_quiet mixed (by kernel_rfl) H ?_
                    refine tq_val (fun _ H => ov_fieldAddr rfl Try.underlying85 rfl (Try.sizeOf46 _) (by decide) rfl) rfl rfl rfl ?_
                    refine tq_val (fun _ H => ov_load_blk H.get1 rfl (Try.isAgg46 _) rfl rfl rfl) rfl rfl rfl ?_
                    refine tq_val (fun _ H => ov_move rfl rfl) rfl rfl rfl ?_
                    refine tq_val (fun _ H => ov_indexAddrR (H.rd0 hR) rfl Try.underlying46 (Try.sizeOf59 _) rfl rfl (by omega) (by omega)) rfl rfl rfl ?_
                    refine tq_val (fun _ H => ov_fieldAddr rfl Try.underlying59 rfl (Try.sizeOf28 _) (by decide) rfl) rfl rfl rfl ?_
                    refine tq_val (fun _ H => ld_RThing_0 (H.rd0 hR) rfl (Try.isAgg28 _) rfl (by omega) (by omega)) rfl rfl rfl ?_
                    refine tq_val (fun _ H => ov_fieldAddr rfl Try.underlying59 rfl (Try.sizeOf28 _) (by decide) rfl) rfl rfl rfl ?_
                    refine tq_val (fun _ H => ov_load_blk H.get0 rfl (Try.isAgg28 _) rfl rfl rfl) rfl rfl rfl ?_
                    refine tq_val (fun _ H => ov_eql rfl rfl rfl) rfl rfl rfl ?_
                    refine tq_val (fun _ H => ov_move rfl rfl) rfl rfl rfl ?_
                    refine tq_split (t := 86) rfl (fun s86 => ?_) (fun s86 => ?_)
                    · skip
                      refine tq_pass rfl rfl rfl ?_
                      refine tq_pass rfl rfl rfl ?_
                      refine tq_pass rfl rfl rfl ?_
                      refine tq_pass rfl rfl rfl ?_
                      refine tq_pass rfl rfl rfl ?_
                      refine tq_pass rfl rfl rfl ?_
                      refine tq_pass rfl rfl rfl ?_
                      refine tq_pass rfl rfl rfl ?_
                      refine tq_pass rfl rfl rfl ?_
                      refine tq_val (fun _ H => ov_pick (vb := undef) rfl rfl rfl rfl) rfl rfl rfl ?_
                      refine tq_nil ?_
                      intro w16 H
                      refine hK33 _ _ (TrC.keep [96, 74, 5, 71, 4, 29, 3, 24, 1] ?_)
                      show TrC _ _ _ _ [(96, _), (74, _), (5, _), (71, _), (4, _), (29, _), (3, _), (24, _), (1, _)] _ _
                      refine tr_cond_t rfl rfl ?_
                      refine tr_seq (fun K34 hK34 => ?_)
                      -- region 13: ref.go:37
                      refine tr_region ?_
                      refine tr_val (ov_assign rfl rfl) rfl rfl rfl ?_
                      refine tr_nil (hK34 _ _ (TrC.keep [2, 96, 74, 5, 71, 4, 29, 3, 24, 1] ?_))
                      show TrC _ _ _ _ [(2, _), (96, _), (74, _), (5, _), (71, _), (4, _), (29, _), (3, _), (24, _), (1, _)] _ _
                      refine tr_ret (post_ret1 (.inr rfl) rfl rfl ?_)
                      (exact ⟨congrArg Value.bool (snd_not (X := X) hi0 (by omega) (fun q1 q2 q3 q4 => by have q1' := q1; unfold okT at q1'; omega)), H.drop0.drop0⟩)
                    · skip
                      refine tq_val (fun _ H => ov_fieldAddr rfl Try.underlying85 rfl (Try.sizeOf46 _) (by decide) rfl) rfl rfl rfl ?_
                      refine tq_val (fun _ H => ov_load_blk H.get1 rfl (Try.isAgg46 _) rfl rfl rfl) rfl rfl rfl ?_
                      refine tq_val (fun _ H => ov_move rfl rfl) rfl rfl rfl ?_
                      refine tq_val (fun _ H => ov_indexAddrR (H.rd0 hR) rfl Try.underlying46 (Try.sizeOf59 _) rfl rfl (by omega) (by omega)) rfl rfl rfl ?_
                      refine tq_val (fun _ H => ov_fieldAddr rfl Try.underlying59 rfl (Try.sizeOf28 _) (by decide) rfl) rfl rfl rfl ?_
                      refine tq_val (fun _ H => ld_RThing_1 (H.rd0 hR) rfl (Try.isAgg28 _) rfl (by omega) (by omega)) rfl rfl rfl ?_
                      refine tq_val (fun _ H => ov_fieldAddr rfl Try.underlying59 rfl (Try.sizeOf28 _) (by decide) rfl) rfl rfl rfl ?_
                      refine tq_val (fun _ H => ov_load_blk H.get0 rfl (Try.isAgg28 _) rfl rfl rfl) rfl rfl rfl ?_
                      refine tq_val (fun _ H => ov_eql rfl rfl rfl) rfl rfl rfl ?_
                      refine tq_val (fun _ H => ov_pick_f (va := undef) rfl rfl rfl rfl) rfl rfl rfl ?_
                      refine tq_nil ?_
                      intro w17 H
                      refine hK33 _ _ (TrC.keep [96, 74, 5, 71, 4, 29, 3, 24, 1] ?_)
                      show TrC _ _ _ _ [(96, _), (74, _), (5, _), (71, _), (4, _), (29, _), (3, _), (24, _), (1, _)] _ _
                      refine tr_cond rfl (fun c96 => ?_) (fun c96 => ?_)
                      · skip
                        refine tr_seq (fun K35 hK35 => ?_)
                        -- region 13: ref.go:37
                        refine tr_region ?_
                        refine tr_val (ov_assign rfl rfl) rfl rfl rfl ?_
                        refine tr_nil (hK35 _ _ (TrC.keep [2, 96, 74, 5, 71, 4, 29, 3, 24, 1] ?_))
                        show TrC _ _ _ _ [(2, _), (96, _), (74, _), (5, _), (71, _), (4, _), (29, _), (3, _), (24, _), (1, _)] _ _
                        refine tr_ret (post_ret1 (.inr rfl) rfl rfl ?_)
                        (exact ⟨congrArg Value.bool (snd_not (X := X) hi0 (by omega) (fun q1 q2 q3 q4 => by have q1' := q1; unfold okT at q1'; omega)), H.drop0.drop0⟩)
                      · skip
                        refine tr_skip (hK32 _ _ (TrC.keep [96, 74, 5, 71, 4, 29, 3, 24, 1] ?_))
                        show TrC _ _ _ _ [(96, _), (74, _), (5, _), (71, _), (4, _), (29, _), (3, _), (24, _), (1, _)] _ _
                        -- region 11: ref.go:35
                        refine tr_region ?_
                        refine tr_val (ov_move rfl rfl) rfl rfl rfl ?_
                        refine tr_val (ov_add rfl rfl rfl (w64 (by omega))) rfl rfl rfl ?_
                        refine tr_val (ov_assign rfl rfl) rfl rfl rfl ?_
                        skip
                        exact tr_nil (hK29 (k + 1) _ _ (⟨by omega, by omega, fun j h0 h1 => (by by_cases e : j = k; (subst e; exact ⟨by omega, by omega⟩); exact hn j h0 (by omega)), H⟩) (by omega) (Sub.cons rfl (Sub.cons rfl (Sub.cons rfl (Sub.cons rfl (Sub.cons rfl (Sub.cons rfl (Sub.cons rfl Sub.nil))))))))
                  · skip
                    refine tr_exit (hK11 _ _ (TrC.keep [74, 5, 71, 4, 29, 3, 24, 1] ?_))
                    show TrC _ _ _ _ [(74, _), (5, _), (71, _), (4, _), (29, _), (3, _), (24, _), (1, _)] _ _
                    -- region 5: ref.go:30
                    refine tr_region ?_
                    refine tr_val (ov_move rfl rfl) rfl rfl rfl ?_
                    refine tr_val (ov_add rfl rfl rfl (w64 (by omega))) rfl rfl rfl ?_
                    refine tr_val (ov_assign rfl rfl) rfl rfl rfl ?_
                    skip
                    exact tr_nil (hK8 (i + 1) _ _ (⟨by omega, by omega, (snd_iff hi0 (by omega)).mpr ⟨hs, ⟨by omega, by omega, by omega, by omega⟩, fun hi => (by (exfalso; omega)), not_take (f := (·.id)) hi0 (by omega) (fun j j0 j1 => (hn j j0 (by omega)).1), not_take (f := (·.gen)) hi0 (by omega) (fun j j0 j1 => (hn j j0 (by omega)).2)⟩, H.drop0⟩) (by omega) (Sub.cons rfl (Sub.cons rfl (Sub.cons rfl Sub.nil))))
      · skip
        refine tr_exit (hK6 _ _ (TrC.keep [29, 3, 24, 1] ?_))
        show TrC _ _ _ _ [(29, _), (3, _), (24, _), (1, _)] _ _
        refine tr_seq (fun K36 hK36 => ?_)
        -- region 14: ref.go:41
        refine tr_region ?_
        refine tr_val (ov_assign rfl rfl) rfl rfl rfl ?_
        refine tr_nil (hK36 _ _ (TrC.keep [2, 29, 3, 24, 1] ?_))
        show TrC _ _ _ _ [(2, _), (29, _), (3, _), (24, _), (1, _)] _ _
        refine tr_ret (post_ret1 (.inr rfl) rfl rfl ?_)
        (have e : X.take i.toNat = X := List.take_of_length_le (by omega); rw [e] at hs; exact ⟨congrArg Value.bool (sndB_true.mpr ⟨by omega, by omega, by omega, hs⟩).symm, H.drop0⟩)

def setS (last : Int) (X : List Thing) (id due : Int) : List Thing := if setE last X id due = 0 then sortT (setX last X id due) else X
theorem setS_ok {last : Int} {X : List Thing} {id due : Int} (h : setE last X id due = 0) : zR (setS last X id due) = sortR (zR (dropT id X) ++ [toR ⟨id, last + 1, due⟩ 0]) := by
  unfold setS setX
  rw [if_pos h, if_pos h, zR_snoc, sortR_z]
theorem setS_no {last : Int} {X : List Thing} {id due : Int} (h : ¬ setE last X id due = 0) : setS last X id due = X := by unfold setS; rw [if_neg h]
theorem isSome_idx (id : Int) (X : List Thing) : (findT id X).isSome = decide (0 ≤ idxR id (zR X)) := by
  have h1 : (findR id (zR X)).isSome = (findT id X).isSome := by rw [findR_z, Option.isSome_map]
  rw [← h1]
  by_cases h : idxR id (zR X) < 0
  · rw [idxR_neg h, decide_eq_false (by omega)]; rfl
  · obtain ⟨r, hr⟩ := idxR_pos h
    rw [hr, decide_eq_true (by omega)]; rfl

theorem tup_t {a : Value} {b : Bool} (h : b = true) : Value.tuple #[a, .bool b] = .tuple #[a, .bool true] := by rw [h]
theorem idx_lt (id : Int) (W : List RThing) : idxR id W < W.length := by
  by_cases h : idxR id W < 0
  · omega
  · obtain ⟨r, hr⟩ := idxR_pos h
    exact (idxR_some hr).2.1
theorem rOr_z (id : Int) (X : List Thing) : rOr (findR id (zR X)) = toR (tOr (findT id X)) 0 := by
  rw [findR_z]; cases findT id X <;> rfl
theorem isSome_z (id : Int) (X : List Thing) : (findR id (zR X)).isSome = (findT id X).isSome := by rw [findR_z, Option.isSome_map]
theorem get_idx (id : Int) (X : List Thing) : ((findT id X).isSome == decide (0 ≤ idxR id (zR X))) = true := by
  rw [← isSome_z]
  by_cases h : idxR id (zR X) < 0
  · rw [idxR_neg h, decide_eq_false (by omega)]; rfl
  · obtain ⟨r, hr⟩ := idxR_pos h
    rw [hr, decide_eq_true (by omega)]; rfl

theorem tOr_neg {id : Int} {X : List Thing} (h : idxR id (zR X) < 0) : tOr (findT id X) = ⟨0, 0, 0⟩ := by
  have h1 := isSome_z id X
  rw [idxR_neg h] at h1
  cases h2 : findT id X with
  | none => rfl
  | some u => rw [h2] at h1; cases h1
theorem get_pos {id : Int} {X : List Thing} (h : ¬ idxR id (zR X) < 0) : toR (tOr (findT id X)) 0 = gt (zR X) (idxR id (zR X)) := by
  obtain ⟨r, hr⟩ := idxR_pos h
  rw [(idxR_some hr).2.2.1, ← rOr_z, hr]; rfl

def dN (now : Int) (q : DOp) : Int := if q.kind = 2 then advN now q.at_ else now
def dL (last : Int) (X : List Thing) (q : DOp) : Int := if q.kind = 1 ∨ q.kind = 2 ∨ q.kind = 3 then last else setN last X q.id q.at_
def dX (now last : Int) (X : List Thing) (q : DOp) : List Thing := if q.kind = 1 then dropT q.id X else if q.kind = 2 then advX now q.at_ X else if q.kind = 3 then X else setS last X q.id q.at_
theorem setX_perm (last : Int) (X : List Thing) (id due : Int) : (setX last X id due).Perm (setS last X id due) := by
  unfold setS setX
  split
  · exact (sortT_perm _).symm
  · exact .refl _
theorem setS_up {last : Int} {X : List Thing} {id due : Int} (h : UpT X) : UpT (setS last X id due) := by
  unfold setS; split
  · exact up_sortT _
  · exact h
theorem dX_up {now last : Int} {X : List Thing} {q : DOp} (h : UpT X) : UpT (dX now last X q) := by
  unfold dX
  split
  · exact upT_sub h dropT_sub
  · split
    · unfold advX; split
      · exact upT_sub h List.filter_sublist
      · exact h
    · split
      · exact h
      · exact setS_up h

end Go.Proofs.Ytblipnjjgbggiaa
