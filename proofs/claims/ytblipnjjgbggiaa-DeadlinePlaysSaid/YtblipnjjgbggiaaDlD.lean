/- Contracts of wheel.Wheel: curfewref13 and do of law 13. Conditions: none. -/
import Derived.Test.YtblipnjjgbggiaaDlC
import Derived.Test.YtblipnjjgbggiaaWhR
namespace Go.Proofs.Ytblipnjjgbggiaa
open Go Go.RowKit
set_option linter.unusedVariables false
set_option linter.unusedSimpArgs false

theorem not_take {X : List Thing} {f : Thing → Int} {i : Int} (h0 : 0 ≤ i) (h1 : i ≤ X.length) {y : Int} (h : ∀ j : Int, 0 ≤ j → j < i → f (gt X j) ≠ y) : y ∉ (X.take i.toNat).map f := by
  intro q
  obtain ⟨t, ht, e⟩ := List.mem_map.mp q
  obtain ⟨k, hk, he⟩ := List.mem_iff_getElem.mp ht
  have hk' : k < i.toNat := by rw [List.length_take] at hk; omega
  refine h (k : Int) (by omega) (by omega) ?_
  rw [gt_eq (by omega) (by omega), ← e, ← he]
  simp
theorem in_take {X : List Thing} {f : Thing → Int} {i k : Int} (h0 : 0 ≤ k) (h1 : k < i) (h2 : i ≤ X.length) : f (gt X k) ∈ (X.take i.toNat).map f := by
  refine List.mem_map.mpr ⟨gt X k, ?_, rfl⟩
  rw [← gt_take h0 h1 h2]
  exact gt_mem h0 (by rw [List.length_take]; omega)
theorem bookX_perm {b : Nat} {now last : Int} {X Y : List Thing} {L : List Res} (h : BookX b now last X L) (p : X.Perm Y) : BookX b now last Y L := by
  obtain ⟨h0, h1, d, Lw, hW, e⟩ := h
  exact ⟨h0, h1, d, Lw, wheelX_perm hW p, e⟩
theorem bookX_of {b : Nat} {now last : Int} {X : List Thing} {L : List Res} (h : BookX b now last X L) : Ids X ∧ (∀ t, t ∈ X → 0 ≤ t.due ∧ t.due ≤ 1125899906842624) ∧ X.length ≤ 256 ∧ (0 ≤ now ∧ now ≤ 1125899906842624) ∧ (0 ≤ last ∧ last ≤ 1152921504606846976) := by
  obtain ⟨h0, h1, d, Lw, ⟨Rs, Fv, hW, hM⟩, e⟩ := h
  exact ⟨hW.ids, hW.dues, hW.few, hW.now0, h0, h1⟩

/-! curfew/curfewref13.Sound -/
set_option maxRecDepth 20000 in
theorem SoundR_c (B : Option Addr) (c : Nat) (W : List RThing) (now last : Int) (w : World) (hR : Rd w B 4 (W.map encRThing)) (hl : W.length ≤ 60000) : Does Try.prog 37 #[.agg #[.int .i64 now, .int .u64 last, .slice B (W).length c]] w (fun v w' => v = .bool (sndB now last (W.map plainR)) ∧ SH w noBlocks [] w') := by
  obtain ⟨X, hX⟩ : ∃ X, W.map plainR = X := ⟨_, rfl⟩
  rw [hX]
  have hlen : X.length = W.length := by rw [← hX, List.length_map]
  have hg : ∀ k : Int, 0 ≤ k → k < W.length → gt X k = plainR (gt W k) := fun k h0 h1 => by rw [← hX]; exact gt_map plainR h0 h1
  refine does_enter1 Try.func37 rfl Try.ntmps37 rfl ?_
  have H := SH.start w noBlocks
  refine tr_seq (fun K1 hK1 => ?_)
  -- region 0: ref.go:26
  refine tr_region ?_
  refine tr_box H rfl rfl rfl rfl rfl rfl ?_
  intro b1 w1 hb1 H
  refine tr_val (ov_assign rfl rfl) rfl rfl rfl ?_
  refine tr_nil (hK1 _ _ (TrC.keep [2, 1] ?_))
  show TrC _ _ _ _ [(2, _), (1, _)] _ _
  refine tr_seq (fun K2 hK2 => ?_)
  refine tr_seq (fun K3 hK3 => ?_)
  -- region 1: ref.go:27
  refine tr_cut [2, 1] [(24, .bool (decide (now < 0 ∨ 1125899906842624 < now ∨ 1152921504606846976 < last ∨ 256 < (W.length : Int))))] (fun w' => SH w noBlocks [blk b1 85 [.int .i64 now, .int .u64 last, .slice B (W).length c]] w') (fun K4 hK4 => ?_) (fun w2 H => ?_)
  · skip
    refine tr_val (ov_fieldAddr rfl Try.underlying85 rfl (Try.sizeOf2 _) (by decide) rfl) rfl rfl rfl ?_
    refine tr_val (ov_load_blk H.get0 rfl (Try.isAgg2 _) rfl rfl rfl) rfl rfl rfl ?_
    refine tr_val (ov_lss rfl rfl rfl) rfl rfl rfl ?_
    refine tr_val (ov_move rfl rfl) rfl rfl rfl ?_
    refine tr_split (t := 9) rfl (fun s9 => ?_) (fun s9 => ?_)
    · skip
      refine tr_pass rfl rfl rfl ?_
      refine tr_pass rfl rfl rfl ?_
      refine tr_pass rfl rfl rfl ?_
      refine tr_val (ov_pick (vb := undef) rfl rfl rfl rfl) rfl rfl rfl ?_
      refine tr_val (ov_move rfl rfl) rfl rfl rfl ?_
      refine tr_pass rfl rfl rfl ?_
      refine tr_pass rfl rfl rfl ?_
      refine tr_pass rfl rfl rfl ?_
      refine tr_val (ov_pick (vb := undef) rfl rfl rfl rfl) rfl rfl rfl ?_
      refine tr_val (ov_move rfl rfl) rfl rfl rfl ?_
      refine tr_pass rfl rfl rfl ?_
      refine tr_pass rfl rfl rfl ?_
      refine tr_pass rfl rfl rfl ?_
      refine tr_pass rfl rfl rfl ?_
      refine tr_val (ov_pick (vb := undef) rfl rfl rfl rfl) rfl rfl rfl ?_
      exact tr_nil (hK4 _ _ (Sub.consE rfl (congrArg Value.bool (by exact eqT (by skip; omega))) (Sub.cons rfl (Sub.cons rfl Sub.nil))) (H))
    · skip
      refine tr_val (ov_fieldAddr rfl Try.underlying85 rfl (Try.sizeOf2 _) (by decide) rfl) rfl rfl rfl ?_
      refine tr_val (ov_load_blk H.get0 rfl (Try.isAgg2 _) rfl rfl rfl) rfl rfl rfl ?_
      refine tr_val (ov_gtr rfl rfl rfl) rfl rfl rfl ?_
      refine tr_val (ov_pick_f (va := undef) rfl rfl rfl rfl) rfl rfl rfl ?_
      refine tr_val (ov_move rfl rfl) rfl rfl rfl ?_
      refine tr_split (t := 14) rfl (fun s14 => ?_) (fun s14 => ?_)
      · skip
        refine tr_pass rfl rfl rfl ?_
        refine tr_pass rfl rfl rfl ?_
        refine tr_pass rfl rfl rfl ?_
        refine tr_val (ov_pick (vb := undef) rfl rfl rfl rfl) rfl rfl rfl ?_
        refine tr_val (ov_move rfl rfl) rfl rfl rfl ?_
        refine tr_pass rfl rfl rfl ?_
        refine tr_pass rfl rfl rfl ?_
        refine tr_pass rfl rfl rfl ?_
        refine tr_pass rfl rfl rfl ?_
        refine tr_val (ov_pick (vb := undef) rfl rfl rfl rfl) rfl rfl rfl ?_
        exact tr_nil (hK4 _ _ (Sub.consE rfl (congrArg Value.bool (by exact eqT (by skip; omega))) (Sub.cons rfl (Sub.cons rfl Sub.nil))) (H))
      · skip
        refine tr_val (ov_fieldAddr rfl Try.underlying85 rfl (Try.sizeOf28 _) (by decide) rfl) rfl rfl rfl ?_
        refine tr_val (ov_load_blk H.get0 rfl (Try.isAgg28 _) rfl rfl rfl) rfl rfl rfl ?_
        refine tr_val (ov_gtr rfl rfl rfl) rfl rfl rfl ?_
        refine tr_val (ov_pick_f (va := undef) rfl rfl rfl rfl) rfl rfl rfl ?_
        refine tr_val (ov_move rfl rfl) rfl rfl rfl ?_
        refine tr_split (t := 19) rfl (fun s19 => ?_) (fun s19 => ?_)
        · skip
          refine tr_pass rfl rfl rfl ?_
          refine tr_pass rfl rfl rfl ?_
          refine tr_pass rfl rfl rfl ?_
          refine tr_pass rfl rfl rfl ?_
          refine tr_val (ov_pick (vb := undef) rfl rfl rfl rfl) rfl rfl rfl ?_
          exact tr_nil (hK4 _ _ (Sub.consE rfl (congrArg Value.bool (by exact eqT (by skip; omega))) (Sub.cons rfl (Sub.cons rfl Sub.nil))) (H))
        · skip
          refine tr_val (ov_fieldAddr rfl Try.underlying85 rfl (Try.sizeOf46 _) (by decide) rfl) rfl rfl rfl ?_
          refine tr_val (ov_load_blk H.get0 rfl (Try.isAgg46 _) rfl rfl rfl) rfl rfl rfl ?_
          refine tr_val (ov_len rfl rfl Try.underlying46 rfl) rfl rfl rfl ?_
          refine tr_val (ov_gtr rfl rfl rfl) rfl rfl rfl ?_
          refine tr_val (ov_pick_f (va := undef) rfl rfl rfl rfl) rfl rfl rfl ?_
          exact tr_nil (hK4 _ _ (Sub.consE rfl (congrArg Value.bool (by exact eqI (by skip; omega))) (Sub.cons rfl (Sub.cons rfl Sub.nil))) (H))
  · skip
    refine hK3 _ _ (TrC.keep [24, 2, 1] ?_)
    show TrC _ _ _ _ [(24, _), (2, _), (1, _)] _ _
    refine tr_cond rfl (fun c24 => ?_) (fun c24 => ?_)
    · skip
      refine tr_seq (fun K5 hK5 => ?_)
      -- region 2: ref.go:28
      refine tr_region ?_
      refine tr_val (ov_assign rfl rfl) rfl rfl rfl ?_
      refine tr_nil (hK5 _ _ (TrC.keep [2, 24, 1] ?_))
      show TrC _ _ _ _ [(2, _), (24, _), (1, _)] _ _
      refine tr_ret (post_ret1 (.inr rfl) rfl rfl ?_)
      (exact ⟨congrArg Value.bool (sndB_false (fun q => by have := q.1; have := q.2.1; have := q.2.2.1; omega)).symm, H.drop0⟩)
    · skip
      refine tr_skip (hK2 _ _ (TrC.keep [24, 2, 1] ?_))
      show TrC _ _ _ _ [(24, _), (2, _), (1, _)] _ _
      refine tr_seq (fun K6 hK6 => ?_)
      refine tr_seq (fun K7 hK7 => ?_)
      -- region 3: ref.go:30
      refine tr_region ?_
      refine tr_val (ov_assign rfl rfl) rfl rfl rfl ?_
      refine tr_nil (hK7 _ _ (TrC.keep [3, 24, 2, 1] ?_))
      show TrC _ _ _ _ [(3, _), (24, _), (2, _), (1, _)] _ _
      refine tr_block ?_
      refine tr_loop_ (X := Int) [24, 1] (fun i => [(3, .int .i64 i)]) (fun i w' => 0 ≤ i ∧ i ≤ W.length ∧ SndT last (X.take i.toNat) ∧ SH w noBlocks [blk b1 85 [.int .i64 now, .int .u64 last, .slice B (W).length c]] w') (fun i => (W.length - i).toNat) (0) (Sub.cons rfl (Sub.cons rfl (Sub.cons rfl Sub.nil))) (⟨by omega, by omega, SndT.nil, H⟩) ?_
      rintro i w3 ⟨hi0, hi1, hs, H⟩ K8 hK8
      show TrC _ _ _ _ [(3, _), (24, _), (1, _)] _ _
      refine tr_seq (fun K9 hK9 => ?_)
      refine tr_seq (fun K10 hK10 => ?_)
      -- region 4: ref.go:30
      refine tr_region ?_
      refine tr_val (ov_move rfl rfl) rfl rfl rfl ?_
      refine tr_val (ov_fieldAddr rfl Try.underlying85 rfl (Try.sizeOf46 _) (by decide) rfl) rfl rfl rfl ?_
      refine tr_val (ov_load_blk H.get0 rfl (Try.isAgg46 _) rfl rfl rfl) rfl rfl rfl ?_
      refine tr_val (ov_len rfl rfl Try.underlying46 rfl) rfl rfl rfl ?_
      refine tr_val (ov_lss rfl rfl rfl) rfl rfl rfl ?_
      refine tr_nil (hK10 _ _ (TrC.keep [29, 3, 24, 1] ?_))
      show TrC _ _ _ _ [(29, _), (3, _), (24, _), (1, _)] _ _
      refine tr_cond rfl (fun c29 => ?_) (fun c29 => ?_)
      · skip
        refine tr_skip (hK9 _ _ (TrC.keep [29, 3, 24, 1] ?_))
        show TrC _ _ _ _ [(29, _), (3, _), (24, _), (1, _)] _ _
        refine tr_seq (fun K11 hK11 => ?_)
        refine tr_block ?_
        refine tr_seq (fun K12 hK12 => ?_)
        -- region 6: ref.go:31
        refine tr_region ?_
        refine tr_val (ov_fieldAddr rfl Try.underlying85 rfl (Try.sizeOf46 _) (by decide) rfl) rfl rfl rfl ?_
        refine tr_val (ov_load_blk H.get0 rfl (Try.isAgg46 _) rfl rfl rfl) rfl rfl rfl ?_
        refine tr_val (ov_move rfl rfl) rfl rfl rfl ?_
        refine tr_val (ov_indexAddrR (H.rd0 hR) rfl Try.underlying46 (Try.sizeOf59 _) rfl rfl (by omega) (by omega)) rfl rfl rfl ?_
        refine tr_val (ld_RThing (H.rd0 hR) rfl (Try.isAgg59 _) (Try.sizeOf59 _) rfl (by omega) (by omega)) rfl rfl rfl ?_
        refine tr_alloc H rfl (Try.zeroValue59 _) rfl rfl rfl rfl ?_
        intro b2 w4 hb2 H
        (refine tr_storeW H.get0 rfl (Try.sizeOf59 _) rfl rfl rfl rfl rfl rfl rfl rfl ?_; intro w5 U; have H := H.upd0 U; clear U)
        refine tr_nil (hK12 _ _ (TrC.keep [4, 29, 3, 24, 1] ?_))
        show TrC _ _ _ _ [(4, _), (29, _), (3, _), (24, _), (1, _)] _ _
        refine tr_seq (fun K13 hK13 => ?_)
        refine tr_seq (fun K14 hK14 => ?_)
        -- region 7: ref.go:32
        have hgi := hg i hi0 (by omega)
        have e1 : (gt X i).gen = (gt W i).gen := by rw [hgi]; rfl
        have e2 : (gt X i).due = (gt W i).due := by rw [hgi]; rfl
        have e3 : (gt X i).id = (gt W i).id := by rw [hgi]; rfl
        have hgp : 0 < i → gt X (i - 1) = plainR (gt W (i - 1)) := fun q => hg _ (by omega) (by omega)
        refine tr_quiet mixed (by kernel_rfl) H ?_
        refine tq_val (fun _ H => ov_fieldAddr rfl Try.underlying59 rfl (Try.sizeOf28 _) (by decide) rfl) rfl rfl rfl ?_
        refine tq_val (fun _ H => ov_load_blk H.get0 rfl (Try.isAgg28 _) rfl rfl rfl) rfl rfl rfl ?_
        refine tq_val (fun _ H => ov_lss rfl rfl rfl) rfl rfl rfl ?_
        refine tq_val (fun _ H => ov_move rfl rfl) rfl rfl rfl ?_
        refine tq_split (t := 40) rfl (fun s40 => ?_) (fun s40 => ?_)
        · skip
          refine tq_pass rfl rfl rfl ?_
          refine tq_pass rfl rfl rfl ?_
          refine tq_pass rfl rfl rfl ?_
          refine tq_pass rfl rfl rfl ?_
          refine tq_pass rfl rfl rfl ?_
          refine tq_val (fun _ H => ov_pick (vb := undef) rfl rfl rfl rfl) rfl rfl rfl ?_
          refine tq_val (fun _ H => ov_move rfl rfl) rfl rfl rfl ?_
          refine tq_pass rfl rfl rfl ?_
          refine tq_pass rfl rfl rfl ?_
          refine tq_pass rfl rfl rfl ?_
          refine tq_val (fun _ H => ov_pick (vb := undef) rfl rfl rfl rfl) rfl rfl rfl ?_
          refine tq_val (fun _ H => ov_move rfl rfl) rfl rfl rfl ?_
          refine tq_pass rfl rfl rfl ?_
          refine tq_pass rfl rfl rfl ?_
          refine tq_pass rfl rfl rfl ?_
          refine tq_val (fun _ H => ov_pick (vb := undef) rfl rfl rfl rfl) rfl rfl rfl ?_
          refine tq_val (fun _ H => ov_move rfl rfl) rfl rfl rfl ?_
          refine tq_pass rfl rfl rfl ?_
          refine tq_pass rfl rfl rfl ?_
          refine tq_pass rfl rfl rfl ?_
          refine tq_pass rfl rfl rfl ?_
          refine tq_pass rfl rfl rfl ?_
          refine tq_pass rfl rfl rfl ?_
          refine tq_pass rfl rfl rfl ?_
          refine tq_pass rfl rfl rfl ?_
          refine tq_pass rfl rfl rfl ?_
          refine tq_pass rfl rfl rfl ?_
          refine tq_pass rfl rfl rfl ?_
          refine tq_pass rfl rfl rfl ?_
          refine tq_pass rfl rfl rfl ?_
          refine tq_val (fun _ H => ov_pick (vb := undef) rfl rfl rfl rfl) rfl rfl rfl ?_
          refine tq_nil ?_
          intro w6 H
          refine hK14 _ _ (TrC.keep [71, 4, 29, 3, 24, 1] ?_)
          show TrC _ _ _ _ [(71, _), (4, _), (29, _), (3, _), (24, _), (1, _)] _ _
          refine tr_cond_t rfl rfl ?_
          refine tr_seq (fun K15 hK15 => ?_)
          -- region 8: ref.go:33
          refine tr_region ?_
          refine tr_val (ov_assign rfl rfl) rfl rfl rfl ?_
          refine tr_nil (hK15 _ _ (TrC.keep [2, 71, 4, 29, 3, 24, 1] ?_))
          show TrC _ _ _ _ [(2, _), (71, _), (4, _), (29, _), (3, _), (24, _), (1, _)] _ _
          refine tr_ret (post_ret1 (.inr rfl) rfl rfl ?_)
          (exact ⟨congrArg Value.bool (snd_not (X := X) hi0 (by omega) (fun q1 q2 q3 q4 => by have q1' := q1; unfold okT at q1'; omega)), H.drop0.drop0⟩)
        · skip
          refine tq_val (fun _ H => ov_fieldAddr rfl Try.underlying59 rfl (Try.sizeOf28 _) (by decide) rfl) rfl rfl rfl ?_
          refine tq_val (fun _ H => ov_load_blk H.get0 rfl (Try.isAgg28 _) rfl rfl rfl) rfl rfl rfl ?_
          refine tq_val (fun _ H => ov_fieldAddr rfl Try.underlying85 rfl (Try.sizeOf28 _) (by decide) rfl) rfl rfl rfl ?_
          refine tq_val (fun _ H => ov_load_blk H.get1 rfl (Try.isAgg28 _) rfl rfl rfl) rfl rfl rfl ?_
          refine tq_val (fun _ H => ov_gtr rfl rfl rfl) rfl rfl rfl ?_
          refine tq_val (fun _ H => ov_pick_f (va := undef) rfl rfl rfl rfl) rfl rfl rfl ?_
          refine tq_val (fun _ H => ov_move rfl rfl) rfl rfl rfl ?_
          refine tq_split (t := 47) rfl (fun s47 => ?_) (fun s47 => ?_)
          · skip
            refine tq_pass rfl rfl rfl ?_
            refine tq_pass rfl rfl rfl ?_
            refine tq_pass rfl rfl rfl ?_
            refine tq_val (fun _ H => ov_pick (vb := undef) rfl rfl rfl rfl) rfl rfl rfl ?_
            refine tq_val (fun _ H => ov_move rfl rfl) rfl rfl rfl ?_
            refine tq_pass rfl rfl rfl ?_
            refine tq_pass rfl rfl rfl ?_
            refine tq_pass rfl rfl rfl ?_
            refine tq_val (fun _ H => ov_pick (vb := undef) rfl rfl rfl rfl) rfl rfl rfl ?_
            refine tq_val (fun _ H => ov_move rfl rfl) rfl rfl rfl ?_
            refine tq_pass rfl rfl rfl ?_
            refine tq_pass rfl rfl rfl ?_
            refine tq_pass rfl rfl rfl ?_
            refine tq_pass rfl rfl rfl ?_
            refine tq_pass rfl rfl rfl ?_
            refine tq_pass rfl rfl rfl ?_
            refine tq_pass rfl rfl rfl ?_
            refine tq_pass rfl rfl rfl ?_
            refine tq_pass rfl rfl rfl ?_
            refine tq_pass rfl rfl rfl ?_
            refine tq_pass rfl rfl rfl ?_
            refine tq_pass rfl rfl rfl ?_
            refine tq_pass rfl rfl rfl ?_
            refine tq_val (fun _ H => ov_pick (vb := undef) rfl rfl rfl rfl) rfl rfl rfl ?_
            refine tq_nil ?_
            intro w7 H
            refine hK14 _ _ (TrC.keep [71, 4, 29, 3, 24, 1] ?_)
            show TrC _ _ _ _ [(71, _), (4, _), (29, _), (3, _), (24, _), (1, _)] _ _
            refine tr_cond_t rfl rfl ?_
            refine tr_seq (fun K16 hK16 => ?_)
            -- region 8: ref.go:33
            refine tr_region ?_
            refine tr_val (ov_assign rfl rfl) rfl rfl rfl ?_
            refine tr_nil (hK16 _ _ (TrC.keep [2, 71, 4, 29, 3, 24, 1] ?_))
            show TrC _ _ _ _ [(2, _), (71, _), (4, _), (29, _), (3, _), (24, _), (1, _)] _ _
            refine tr_ret (post_ret1 (.inr rfl) rfl rfl ?_)
            (exact ⟨congrArg Value.bool (snd_not (X := X) hi0 (by omega) (fun q1 q2 q3 q4 => by have q1' := q1; unfold okT at q1'; omega)), H.drop0.drop0⟩)
          · skip
            refine tq_val (fun _ H => ov_fieldAddr rfl Try.underlying59 rfl (Try.sizeOf2 _) (by decide) rfl) rfl rfl rfl ?_
            refine tq_val (fun _ H => ov_load_blk H.get0 rfl (Try.isAgg2 _) rfl rfl rfl) rfl rfl rfl ?_
            refine tq_val (fun _ H => ov_lss rfl rfl rfl) rfl rfl rfl ?_
            refine tq_val (fun _ H => ov_pick_f (va := undef) rfl rfl rfl rfl) rfl rfl rfl ?_
            refine tq_val (fun _ H => ov_move rfl rfl) rfl rfl rfl ?_
            refine tq_split (t := 52) rfl (fun s52 => ?_) (fun s52 => ?_)
            · skip
              refine tq_pass rfl rfl rfl ?_
              refine tq_pass rfl rfl rfl ?_
              refine tq_pass rfl rfl rfl ?_
              refine tq_val (fun _ H => ov_pick (vb := undef) rfl rfl rfl rfl) rfl rfl rfl ?_
              refine tq_val (fun _ H => ov_move rfl rfl) rfl rfl rfl ?_
              refine tq_pass rfl rfl rfl ?_
              refine tq_pass rfl rfl rfl ?_
              refine tq_pass rfl rfl rfl ?_
              refine tq_pass rfl rfl rfl ?_
              refine tq_pass rfl rfl rfl ?_
              refine tq_pass rfl rfl rfl ?_
              refine tq_pass rfl rfl rfl ?_
              refine tq_pass rfl rfl rfl ?_
              refine tq_pass rfl rfl rfl ?_
              refine tq_pass rfl rfl rfl ?_
              refine tq_pass rfl rfl rfl ?_
              refine tq_pass rfl rfl rfl ?_
              refine tq_pass rfl rfl rfl ?_
              refine tq_val (fun _ H => ov_pick (vb := undef) rfl rfl rfl rfl) rfl rfl rfl ?_
              refine tq_nil ?_
              intro w8 H
              refine hK14 _ _ (TrC.keep [71, 4, 29, 3, 24, 1] ?_)
              show TrC _ _ _ _ [(71, _), (4, _), (29, _), (3, _), (24, _), (1, _)] _ _
              refine tr_cond_t rfl rfl ?_
              refine tr_seq (fun K17 hK17 => ?_)
              -- region 8: ref.go:33
              refine tr_region ?_
              refine tr_val (ov_assign rfl rfl) rfl rfl rfl ?_
              refine tr_nil (hK17 _ _ (TrC.keep [2, 71, 4, 29, 3, 24, 1] ?_))
              show TrC _ _ _ _ [(2, _), (71, _), (4, _), (29, _), (3, _), (24, _), (1, _)] _ _
              refine tr_ret (post_ret1 (.inr rfl) rfl rfl ?_)
              (exact ⟨congrArg Value.bool (snd_not (X := X) hi0 (by omega) (fun q1 q2 q3 q4 => by have q1' := q1; unfold okT at q1'; omega)), H.drop0.drop0⟩)
            · skip
              refine tq_val (fun _ H => ov_fieldAddr rfl Try.underlying59 rfl (Try.sizeOf2 _) (by decide) rfl) rfl rfl rfl ?_
              refine tq_val (fun _ H => ov_load_blk H.get0 rfl (Try.isAgg2 _) rfl rfl rfl) rfl rfl rfl ?_
              refine tq_val (fun _ H => ov_gtr rfl rfl rfl) rfl rfl rfl ?_
              refine tq_val (fun _ H => ov_pick_f (va := undef) rfl rfl rfl rfl) rfl rfl rfl ?_
              refine tq_val (fun _ H => ov_move rfl rfl) rfl rfl rfl ?_
              refine tq_split (t := 57) rfl (fun s57 => ?_) (fun s57 => ?_)
              · skip
                refine tq_pass rfl rfl rfl ?_
                refine tq_pass rfl rfl rfl ?_
                refine tq_pass rfl rfl rfl ?_
                refine tq_pass rfl rfl rfl ?_
                refine tq_pass rfl rfl rfl ?_
                refine tq_pass rfl rfl rfl ?_
                refine tq_pass rfl rfl rfl ?_
                refine tq_pass rfl rfl rfl ?_
                refine tq_pass rfl rfl rfl ?_
                refine tq_pass rfl rfl rfl ?_
                refine tq_pass rfl rfl rfl ?_
                refine tq_pass rfl rfl rfl ?_
                refine tq_pass rfl rfl rfl ?_
                refine tq_val (fun _ H => ov_pick (vb := undef) rfl rfl rfl rfl) rfl rfl rfl ?_
                refine tq_nil ?_
                intro w9 H
                refine hK14 _ _ (TrC.keep [71, 4, 29, 3, 24, 1] ?_)
                show TrC _ _ _ _ [(71, _), (4, _), (29, _), (3, _), (24, _), (1, _)] _ _
                refine tr_cond_t rfl rfl ?_
                refine tr_seq (fun K18 hK18 => ?_)
                -- region 8: ref.go:33
                refine tr_region ?_
                refine tr_val (ov_assign rfl rfl) rfl rfl rfl ?_
                refine tr_nil (hK18 _ _ (TrC.keep [2, 71, 4, 29, 3, 24, 1] ?_))
                show TrC _ _ _ _ [(2, _), (71, _), (4, _), (29, _), (3, _), (24, _), (1, _)] _ _
                refine tr_ret (post_ret1 (.inr rfl) rfl rfl ?_)
                (exact ⟨congrArg Value.bool (snd_not (X := X) hi0 (by omega) (fun q1 q2 q3 q4 => by have q1' := q1; unfold okT at q1'; omega)), H.drop0.drop0⟩)
              · skip
                refine tq_val (fun _ H => ov_move rfl rfl) rfl rfl rfl ?_
                refine tq_val (fun _ H => ov_gtr rfl rfl rfl) rfl rfl rfl ?_
                refine tq_val (fun _ H => ov_move rfl rfl) rfl rfl rfl ?_
                refine tq_split (t := 60) rfl (fun s60 => ?_) (fun s60 => ?_)
                · skip
                  refine tq_val (fun _ H => ov_fieldAddr rfl Try.underlying85 rfl (Try.sizeOf46 _) (by decide) rfl) rfl rfl rfl ?_
                  refine tq_val (fun _ H => ov_load_blk H.get1 rfl (Try.isAgg46 _) rfl rfl rfl) rfl rfl rfl ?_
                  refine tq_val (fun _ H => ov_move rfl rfl) rfl rfl rfl ?_
                  refine tq_val (fun _ H => ov_sub rfl rfl rfl (w64 (by omega))) rfl rfl rfl ?_
                  refine tq_val (fun _ H => ov_indexAddrR (H.rd0 hR) rfl Try.underlying46 (Try.sizeOf59 _) rfl rfl (by omega) (by omega)) rfl rfl rfl ?_
                  refine tq_val (fun _ H => ld_RThing (H.rd0 hR) rfl (Try.isAgg59 _) (Try.sizeOf59 _) rfl (by omega) (by omega)) rfl rfl rfl ?_
                  refine tq_val (fun _ H => ov_load_blkN H.get0 rfl (Try.isAgg59 _) (Try.sizeOf59 _) rfl rfl rfl) rfl rfl rfl ?_
                  refine tq_call (fun _ H => (BeforeR_c (gt W (i - 1)) (gt W i) _).mono (fun _ _ hq => ⟨hq.1, H.call0n hq.2⟩)) rfl rfl rfl Try.call73 rfl rfl rfl ?_
                  refine tq_val (fun _ H => ov_not rfl rfl) rfl rfl rfl ?_
                  refine tq_val (fun _ H => ov_pick (vb := undef) rfl rfl rfl rfl) rfl rfl rfl ?_
                  refine tq_val (fun _ H => ov_pick_f (va := undef) rfl rfl rfl rfl) rfl rfl rfl ?_
                  refine tq_nil ?_
                  intro w10 H
                  refine hK14 _ _ (TrC.keep [71, 4, 29, 3, 24, 1] ?_)
                  show TrC _ _ _ _ [(71, _), (4, _), (29, _), (3, _), (24, _), (1, _)] _ _
                  refine tr_cond rfl (fun c71 => ?_) (fun c71 => ?_)
                  · skip
                    refine tr_seq (fun K19 hK19 => ?_)
                    -- region 8: ref.go:33
                    refine tr_region ?_
                    refine tr_val (ov_assign rfl rfl) rfl rfl rfl ?_
                    refine tr_nil (hK19 _ _ (TrC.keep [2, 71, 4, 29, 3, 24, 1] ?_))
                    show TrC _ _ _ _ [(2, _), (71, _), (4, _), (29, _), (3, _), (24, _), (1, _)] _ _
                    refine tr_ret (post_ret1 (.inr rfl) rfl rfl ?_)
                    (exact ⟨congrArg Value.bool (snd_not (X := X) hi0 (by omega) (fun q1 q2 q3 q4 => by have q1' := q1; unfold okT at q1'; (have q5 := q2 (by omega); rw [hgp (by omega), hgi] at q5; exact c71 q5))), H.drop0.drop0⟩)
                  · skip
                    refine tr_skip (hK13 _ _ (TrC.keep [71, 4, 29, 3, 24, 1] ?_))
                    show TrC _ _ _ _ [(71, _), (4, _), (29, _), (3, _), (24, _), (1, _)] _ _
                    refine tr_seq (fun K20 hK20 => ?_)
                    -- region 9: ref.go:35
                    refine tr_region ?_
                    refine tr_val (ov_assign rfl rfl) rfl rfl rfl ?_
                    refine tr_nil (hK20 _ _ (TrC.keep [5, 71, 4, 29, 3, 24, 1] ?_))
                    show TrC _ _ _ _ [(5, _), (71, _), (4, _), (29, _), (3, _), (24, _), (1, _)] _ _
                    refine tr_block ?_
                    refine tr_loop_ (X := Int) [71, 4, 29, 3, 24, 1] (fun k => [(5, .int .i64 k)]) (fun k w' => 0 ≤ k ∧ k ≤ i ∧ (∀ j : Int, 0 ≤ j → j < k → (gt X j).id ≠ (gt X i).id ∧ (gt X j).gen ≠ (gt X i).gen) ∧ SH w noBlocks [blk b2 59 [.int .u64 (gt W i).id, .int .u64 (gt W i).gen, .int .i64 (gt W i).due, .int .i64 (gt W i).slot], blk b1 85 [.int .i64 now, .int .u64 last, .slice B (W).length c]] w') (fun k => (i - k).toNat) (0) (Sub.cons rfl (Sub.cons rfl (Sub.cons rfl (Sub.cons rfl (Sub.cons rfl (Sub.cons rfl (Sub.cons rfl Sub.nil))))))) (⟨by omega, by omega, fun j h0 h1 => by omega, H⟩) ?_
                    rintro k w11 ⟨hk0, hk1, hn, H⟩ K21 hK21
                    show TrC _ _ _ _ [(5, _), (71, _), (4, _), (29, _), (3, _), (24, _), (1, _)] _ _
                    refine tr_seq (fun K22 hK22 => ?_)
                    refine tr_seq (fun K23 hK23 => ?_)
                    -- region 10: ref.go:35
                    refine tr_region ?_
                    refine tr_val (ov_move rfl rfl) rfl rfl rfl ?_
                    refine tr_val (ov_move rfl rfl) rfl rfl rfl ?_
                    refine tr_val (ov_lss rfl rfl rfl) rfl rfl rfl ?_
                    refine tr_nil (hK23 _ _ (TrC.keep [74, 5, 71, 4, 29, 3, 24, 1] ?_))
                    show TrC _ _ _ _ [(74, _), (5, _), (71, _), (4, _), (29, _), (3, _), (24, _), (1, _)] _ _
                    refine tr_cond rfl (fun c74 => ?_) (fun c74 => ?_)
                    · skip
                      refine tr_skip (hK22 _ _ (TrC.keep [74, 5, 71, 4, 29, 3, 24, 1] ?_))
                      show TrC _ _ _ _ [(74, _), (5, _), (71, _), (4, _), (29, _), (3, _), (24, _), (1, _)] _ _
                      refine tr_seq (fun K24 hK24 => ?_)
                      refine tr_block ?_
                      refine tr_seq (fun K25 hK25 => ?_)
                      -- region 12: ref.go:36
                      have hgk := hg k hk0 (by omega)
                      have f1 : (gt X k).gen = (gt W k).gen := by rw [hgk]; rfl
                      have f2 : (gt X k).id = (gt W k).id := by rw [hgk]; rfl
                      refine tr_quiet mixed (by kernel_rfl) H ?_
                      refine tq_val (fun _ H => ov_fieldAddr rfl Try.underlying85 rfl (Try.sizeOf46 _) (by decide) rfl) rfl rfl rfl ?_
                      refine tq_val (fun _ H => ov_load_blk H.get1 rfl (Try.isAgg46 _) rfl rfl rfl) rfl rfl rfl ?_
                      refine tq_val (fun _ H => ov_move rfl rfl) rfl rfl rfl ?_
                      refine tq_val (fun _ H => ov_indexAddrR (H.rd0 hR) rfl Try.underlying46 (Try.sizeOf59 _) rfl rfl (by omega) (by omega)) rfl rfl rfl ?_
                      refine tq_val (fun _ H => ov_fieldAddr rfl Try.underlying59 rfl (Try.sizeOf28 _) (by decide) rfl) rfl rfl rfl ?_
                      refine tq_val (fun _ H => ld_RThing_0 (H.rd0 hR) rfl (Try.isAgg28 _) rfl (by omega) (by omega)) rfl rfl rfl ?_
                      refine tq_val (fun _ H => ov_fieldAddr rfl Try.underlying59 rfl (Try.sizeOf28 _) (by decide) rfl) rfl rfl rfl ?_
                      refine tq_val (fun _ H => ov_load_blk H.get0 rfl (Try.isAgg28 _) rfl rfl rfl) rfl rfl rfl ?_
                      refine tq_val (fun _ H => ov_eql rfl rfl rfl) rfl rfl rfl ?_
                      refine tq_val (fun _ H => ov_move rfl rfl) rfl rfl rfl ?_
                      refine tq_split (t := 86) rfl (fun s86 => ?_) (fun s86 => ?_)
                      · skip
                        refine tq_pass rfl rfl rfl ?_
                        refine tq_pass rfl rfl rfl ?_
                        refine tq_pass rfl rfl rfl ?_
                        refine tq_pass rfl rfl rfl ?_
                        refine tq_pass rfl rfl rfl ?_
                        refine tq_pass rfl rfl rfl ?_
                        refine tq_pass rfl rfl rfl ?_
                        refine tq_pass rfl rfl rfl ?_
                        refine tq_pass rfl rfl rfl ?_
                        refine tq_val (fun _ H => ov_pick (vb := undef) rfl rfl rfl rfl) rfl rfl rfl ?_
                        refine tq_nil ?_
                        intro w12 H
                        refine hK25 _ _ (TrC.keep [96, 74, 5, 71, 4, 29, 3, 24, 1] ?_)
                        show TrC _ _ _ _ [(96, _), (74, _), (5, _), (71, _), (4, _), (29, _), (3, _), (24, _), (1, _)] _ _
                        refine tr_cond_t rfl rfl ?_
                        refine tr_seq (fun K26 hK26 => ?_)
                        -- region 13: ref.go:37
                        refine tr_region ?_
                        refine tr_val (ov_assign rfl rfl) rfl rfl rfl ?_
                        refine tr_nil (hK26 _ _ (TrC.keep [2, 96, 74, 5, 71, 4, 29, 3, 24, 1] ?_))
                        show TrC _ _ _ _ [(2, _), (96, _), (74, _), (5, _), (71, _), (4, _), (29, _), (3, _), (24, _), (1, _)] _ _
                        refine tr_ret (post_ret1 (.inr rfl) rfl rfl ?_)
                        (exact ⟨congrArg Value.bool (snd_not (X := X) hi0 (by omega) (fun q1 q2 q3 q4 => by have q1' := q1; unfold okT at q1'; exact q3 (by rw [e3, ← s86, ← f2]; exact in_take (f := (·.id)) hk0 (by omega) (by omega)))), H.drop0.drop0⟩)
                      · skip
                        refine tq_val (fun _ H => ov_fieldAddr rfl Try.underlying85 rfl (Try.sizeOf46 _) (by decide) rfl) rfl rfl rfl ?_
                        refine tq_val (fun _ H => ov_load_blk H.get1 rfl (Try.isAgg46 _) rfl rfl rfl) rfl rfl rfl ?_
                        refine tq_val (fun _ H => ov_move rfl rfl) rfl rfl rfl ?_
                        refine tq_val (fun _ H => ov_indexAddrR (H.rd0 hR) rfl Try.underlying46 (Try.sizeOf59 _) rfl rfl (by omega) (by omega)) rfl rfl rfl ?_
                        refine tq_val (fun _ H => ov_fieldAddr rfl Try.underlying59 rfl (Try.sizeOf28 _) (by decide) rfl) rfl rfl rfl ?_
                        refine tq_val (fun _ H => ld_RThing_1 (H.rd0 hR) rfl (Try.isAgg28 _) rfl (by omega) (by omega)) rfl rfl rfl ?_
                        refine tq_val (fun _ H => ov_fieldAddr rfl Try.underlying59 rfl (Try.sizeOf28 _) (by decide) rfl) rfl rfl rfl ?_
                        refine tq_val (fun _ H => ov_load_blk H.get0 rfl (Try.isAgg28 _) rfl rfl rfl) rfl rfl rfl ?_
                        refine tq_val (fun _ H => ov_eql rfl rfl rfl) rfl rfl rfl ?_
                        refine tq_val (fun _ H => ov_pick_f (va := undef) rfl rfl rfl rfl) rfl rfl rfl ?_
                        refine tq_nil ?_
                        intro w13 H
                        refine hK25 _ _ (TrC.keep [96, 74, 5, 71, 4, 29, 3, 24, 1] ?_)
                        show TrC _ _ _ _ [(96, _), (74, _), (5, _), (71, _), (4, _), (29, _), (3, _), (24, _), (1, _)] _ _
                        refine tr_cond rfl (fun c96 => ?_) (fun c96 => ?_)
                        · skip
                          refine tr_seq (fun K27 hK27 => ?_)
                          -- region 13: ref.go:37
                          refine tr_region ?_
                          refine tr_val (ov_assign rfl rfl) rfl rfl rfl ?_
                          refine tr_nil (hK27 _ _ (TrC.keep [2, 96, 74, 5, 71, 4, 29, 3, 24, 1] ?_))
                          show TrC _ _ _ _ [(2, _), (96, _), (74, _), (5, _), (71, _), (4, _), (29, _), (3, _), (24, _), (1, _)] _ _
                          refine tr_ret (post_ret1 (.inr rfl) rfl rfl ?_)
                          (exact ⟨congrArg Value.bool (snd_not (X := X) hi0 (by omega) (fun q1 q2 q3 q4 => by have q1' := q1; unfold okT at q1'; exact q4 (by rw [e1, ← c96, ← f1]; exact in_take (f := (·.gen)) hk0 (by omega) (by omega)))), H.drop0.drop0⟩)
                        · skip
                          refine tr_skip (hK24 _ _ (TrC.keep [96, 74, 5, 71, 4, 29, 3, 24, 1] ?_))
                          show TrC _ _ _ _ [(96, _), (74, _), (5, _), (71, _), (4, _), (29, _), (3, _), (24, _), (1, _)] _ _
                          -- region 11: ref.go:35
                          refine tr_region ?_
                          refine tr_val (ov_move rfl rfl) rfl rfl rfl ?_
                          refine tr_val (ov_add rfl rfl rfl (w64 (by omega))) rfl rfl rfl ?_
                          refine tr_val (ov_assign rfl rfl) rfl rfl rfl ?_
                          skip
                          exact tr_nil (hK21 (k + 1) _ _ (⟨by omega, by omega, fun j h0 h1 => (by by_cases e : j = k; (subst e; exact ⟨by omega, by omega⟩); exact hn j h0 (by omega)), H⟩) (by omega) (Sub.cons rfl (Sub.cons rfl (Sub.cons rfl (Sub.cons rfl (Sub.cons rfl (Sub.cons rfl (Sub.cons rfl Sub.nil))))))))
                    · skip
                      refine tr_exit (hK11 _ _ (TrC.keep [74, 5, 71, 4, 29, 3, 24, 1] ?_))
                      show TrC _ _ _ _ [(74, _), (5, _), (71, _), (4, _), (29, _), (3, _), (24, _), (1, _)] _ _
                      -- region 5: ref.go:30
                      refine tr_region ?_
                      refine tr_val (ov_move rfl rfl) rfl rfl rfl ?_
                      refine tr_val (ov_add rfl rfl rfl (w64 (by omega))) rfl rfl rfl ?_
                      refine tr_val (ov_assign rfl rfl) rfl rfl rfl ?_
                      skip
                      exact tr_nil (hK8 (i + 1) _ _ (⟨by omega, by omega, (snd_iff hi0 (by omega)).mpr ⟨hs, ⟨by omega, by omega, by omega, by omega⟩, fun hi => (by (rw [hgp hi, hgi]; exact Classical.not_not.mp c71)), not_take (f := (·.id)) hi0 (by omega) (fun j j0 j1 => (hn j j0 (by omega)).1), not_take (f := (·.gen)) hi0 (by omega) (fun j j0 j1 => (hn j j0 (by omega)).2)⟩, H.drop0⟩) (by omega) (Sub.cons rfl (Sub.cons rfl (Sub.cons rfl Sub.nil))))
                · skip
                  refine tq_pass rfl rfl rfl ?_
                  refine tq_pass rfl rfl rfl ?_
                  refine tq_pass rfl rfl rfl ?_
                  refine tq_pass rfl rfl rfl ?_
                  refine tq_pass rfl rfl rfl ?_
                  refine tq_pass rfl rfl rfl ?_
                  refine tq_pass rfl rfl rfl ?_
                  refine tq_pass rfl rfl rfl ?_
                  refine tq_pass rfl rfl rfl ?_
                  refine tq_val (fun _ H => ov_pick_f (va := undef) rfl rfl rfl rfl) rfl rfl rfl ?_
                  refine tq_val (fun _ H => ov_pick_f (va := undef) rfl rfl rfl rfl) rfl rfl rfl ?_
                  refine tq_nil ?_
                  intro w14 H
                  refine hK14 _ _ (TrC.keep [71, 4, 29, 3, 24, 1] ?_)
                  show TrC _ _ _ _ [(71, _), (4, _), (29, _), (3, _), (24, _), (1, _)] _ _
                  refine tr_cond_f rfl rfl ?_
                  refine tr_skip (hK13 _ _ (TrC.keep [71, 4, 29, 3, 24, 1] ?_))
                  show TrC _ _ _ _ [(71, _), (4, _), (29, _), (3, _), (24, _), (1, _)] _ _
                  refine tr_seq (fun K28 hK28 => ?_)
                  -- region 9: ref.go:35
                  refine tr_region ?_
                  refine tr_val (ov_assign rfl rfl) rfl rfl rfl ?_
                  refine tr_nil (hK28 _ _ (TrC.keep [5, 71, 4, 29, 3, 24, 1] ?_))
                  show TrC _ _ _ _ [(5, _), (71, _), (4, _), (29, _), (3, _), (24, _), (1, _)] _ _
                  refine tr_block ?_
                  refine tr_loop_ (X := Int) [71, 4, 29, 3, 24, 1] (fun k => [(5, .int .i64 k)]) (fun k w' => 0 ≤ k ∧ k ≤ i ∧ (∀ j : Int, 0 ≤ j → j < k → (gt X j).id ≠ (gt X i).id ∧ (gt X j).gen ≠ (gt X i).gen) ∧ SH w noBlocks [blk b2 59 [.int .u64 (gt W i).id, .int .u64 (gt W i).gen, .int .i64 (gt W i).due, .int .i64 (gt W i).slot], blk b1 85 [.int .i64 now, .int .u64 last, .slice B (W).length c]] w') (fun k => (i - k).toNat) (0) (Sub.cons rfl (Sub.cons rfl (Sub.cons rfl (Sub.cons rfl (Sub.cons rfl (Sub.cons rfl (Sub.cons rfl Sub.nil))))))) (⟨by omega, by omega, fun j h0 h1 => by omega, H⟩) ?_
                  rintro k w15 ⟨hk0, hk1, hn, H⟩ K29 hK29
                  show TrC _ _ _ _ [(5, _), (71, _), (4, _), (29, _), (3, _), (24, _), (1, _)] _ _
                  refine tr_seq (fun K30 hK30 => ?_)
                  refine tr_seq (fun K31 hK31 => ?_)
                  -- region 10: ref.go:35
                  refine tr_region ?_
                  refine tr_val (ov_move rfl rfl) rfl rfl rfl ?_
                  refine tr_val (ov_move rfl rfl) rfl rfl rfl ?_
                  refine tr_val (ov_lss rfl rfl rfl) rfl rfl rfl ?_
                  refine tr_nil (hK31 _ _ (TrC.keep [74, 5, 71, 4, 29, 3, 24, 1] ?_))
                  show TrC _ _ _ _ [(74, _), (5, _), (71, _), (4, _), (29, _), (3, _), (24, _), (1, _)] _ _
                  refine tr_cond rfl (fun c74 => ?_) (fun c74 => ?_)
                  · skip
                    refine tr_skip (hK30 _ _ (TrC.keep [74, 5, 71, 4, 29, 3, 24, 1] ?_))
                    show TrC _ _ _ _ [(74, _), (5, _), (71, _), (4, _), (29, _), (3, _), (24, _), (1, _)] _ _
                    refine tr_seq (fun K32 hK32 => ?_)
                    refine tr_block ?_
                    refine tr_seq (fun K33 hK33 => ?_)
                    -- region 12: ref.go:36
                    have hgk := hg k hk0 (by omega)
                    have f1 : (gt X k).gen = (gt W k).gen := by rw [hgk]; rfl
                    have f2 : (gt X k).id = (gt W k).id := by rw [hgk]; rfl
                    refine tr_quiet mixed (by kernel_rfl) H ?_
                    refine tq_val (fun _ H => ov_fieldAddr rfl Try.underlying85 rfl (Try.sizeOf46 _) (by decide) rfl) rfl rfl rfl ?_
                    refine tq_val (fun _ H => ov_load_blk H.get1 rfl (Try.isAgg46 _) rfl rfl rfl) rfl rfl rfl ?_
                    refine tq_val (fun _ H => ov_move rfl rfl) rfl rfl rfl ?_
                    refine tq_val (fun _ H => ov_indexAddrR (H.rd0 hR) rfl Try.underlying46 (Try.sizeOf59 _) rfl rfl (by omega) (by omega)) rfl rfl rfl ?_
                    refine tq_val (fun _ H => ov_fieldAddr rfl Try.underlying59 rfl (Try.sizeOf28 _) (by decide) rfl) rfl rfl rfl ?_
                    refine tq_val (fun _ H => ld_RThing_0 (H.rd0 hR) rfl (Try.isAgg28 _) rfl (by omega) (by omega)) rfl rfl rfl ?_
                    refine tq_val (fun _ H => ov_fieldAddr rfl Try.underlying59 rfl (Try.sizeOf28 _) (by decide) rfl) rfl rfl rfl ?_
                    refine tq_val (fun _ H => ov_load_blk H.get0 rfl (Try.isAgg28 _) rfl rfl rfl) rfl rfl rfl ?_
                    refine tq_val (fun _ H => ov_eql rfl rfl rfl) rfl rfl rfl ?_
                    refine tq_val (fun _ H => ov_move rfl rfl) rfl rfl rfl ?_
                    refine tq_split (t := 86) rfl (fun s86 => ?_) (fun s86 => ?_)
                    · skip
                      refine tq_pass rfl rfl rfl ?_
                      refine tq_pass rfl rfl rfl ?_
                      refine tq_pass rfl rfl rfl ?_
                      refine tq_pass rfl rfl rfl ?_
                      refine tq_pass rfl rfl rfl ?_
                      refine tq_pass rfl rfl rfl ?_
                      refine tq_pass rfl rfl rfl ?_
                      refine tq_pass rfl rfl rfl ?_
                      refine tq_pass rfl rfl rfl ?_
                      refine tq_val (fun _ H => ov_pick (vb := undef) rfl rfl rfl rfl) rfl rfl rfl ?_
                      refine tq_nil ?_
                      intro w16 H
                      refine hK33 _ _ (TrC.keep [96, 74, 5, 71, 4, 29, 3, 24, 1] ?_)
                      show TrC _ _ _ _ [(96, _), (74, _), (5, _), (71, _), (4, _), (29, _), (3, _), (24, _), (1, _)] _ _
                      refine tr_cond_t rfl rfl ?_
                      refine tr_seq (fun K34 hK34 => ?_)
                      -- region 13: ref.go:37
                      refine tr_region ?_
                      refine tr_val (ov_assign rfl rfl) rfl rfl rfl ?_
                      refine tr_nil (hK34 _ _ (TrC.keep [2, 96, 74, 5, 71, 4, 29, 3, 24, 1] ?_))
                      show TrC _ _ _ _ [(2, _), (96, _), (74, _), (5, _), (71, _), (4, _), (29, _), (3, _), (24, _), (1, _)] _ _
                      refine tr_ret (post_ret1 (.inr rfl) rfl rfl ?_)
                      (exact ⟨congrArg Value.bool (snd_not (X := X) hi0 (by omega) (fun q1 q2 q3 q4 => by have q1' := q1; unfold okT at q1'; omega)), H.drop0.drop0⟩)
                    · skip
                      refine tq_val (fun _ H => ov_fieldAddr rfl Try.underlying85 rfl (Try.sizeOf46 _) (by decide) rfl) rfl rfl rfl ?_
                      refine tq_val (fun _ H => ov_load_blk H.get1 rfl (Try.isAgg46 _) rfl rfl rfl) rfl rfl rfl ?_
                      refine tq_val (fun _ H => ov_move rfl rfl) rfl rfl rfl ?_
                      refine tq_val (fun _ H => ov_indexAddrR (H.rd0 hR) rfl Try.underlying46 (Try.sizeOf59 _) rfl rfl (by omega) (by omega)) rfl rfl rfl ?_
                      refine tq_val (fun _ H => ov_fieldAddr rfl Try.underlying59 rfl (Try.sizeOf28 _) (by decide) rfl) rfl rfl rfl ?_
                      refine tq_val (fun _ H => ld_RThing_1 (H.rd0 hR) rfl (Try.isAgg28 _) rfl (by omega) (by omega)) rfl rfl rfl ?_
                      refine tq_val (fun _ H => ov_fieldAddr rfl Try.underlying59 rfl (Try.sizeOf28 _) (by decide) rfl) rfl rfl rfl ?_
                      refine tq_val (fun _ H => ov_load_blk H.get0 rfl (Try.isAgg28 _) rfl rfl rfl) rfl rfl rfl ?_
                      refine tq_val (fun _ H => ov_eql rfl rfl rfl) rfl rfl rfl ?_
                      refine tq_val (fun _ H => ov_pick_f (va := undef) rfl rfl rfl rfl) rfl rfl rfl ?_
                      refine tq_nil ?_
                      intro w17 H
                      refine hK33 _ _ (TrC.keep [96, 74, 5, 71, 4, 29, 3, 24, 1] ?_)
                      show TrC _ _ _ _ [(96, _), (74, _), (5, _), (71, _), (4, _), (29, _), (3, _), (24, _), (1, _)] _ _
                      refine tr_cond rfl (fun c96 => ?_) (fun c96 => ?_)
                      · skip
                        refine tr_seq (fun K35 hK35 => ?_)
                        -- region 13: ref.go:37
                        refine tr_region ?_
                        refine tr_val (ov_assign rfl rfl) rfl rfl rfl ?_
                        refine tr_nil (hK35 _ _ (TrC.keep [2, 96, 74, 5, 71, 4, 29, 3, 24, 1] ?_))
                        show TrC _ _ _ _ [(2, _), (96, _), (74, _), (5, _), (71, _), (4, _), (29, _), (3, _), (24, _), (1, _)] _ _
                        refine tr_ret (post_ret1 (.inr rfl) rfl rfl ?_)
                        (exact ⟨congrArg Value.bool (snd_not (X := X) hi0 (by omega) (fun q1 q2 q3 q4 => by have q1' := q1; unfold okT at q1'; omega)), H.drop0.drop0⟩)
                      · skip
                        refine tr_skip (hK32 _ _ (TrC.keep [96, 74, 5, 71, 4, 29, 3, 24, 1] ?_))
                        show TrC _ _ _ _ [(96, _), (74, _), (5, _), (71, _), (4, _), (29, _), (3, _), (24, _), (1, _)] _ _
                        -- region 11: ref.go:35
                        refine tr_region ?_
                        refine tr_val (ov_move rfl rfl) rfl rfl rfl ?_
                        refine tr_val (ov_add rfl rfl rfl (w64 (by omega))) rfl rfl rfl ?_
                        refine tr_val (ov_assign rfl rfl) rfl rfl rfl ?_
                        skip
                        exact tr_nil (hK29 (k + 1) _ _ (⟨by omega, by omega, fun j h0 h1 => (by by_cases e : j = k; (subst e; exact ⟨by omega, by omega⟩); exact hn j h0 (by omega)), H⟩) (by omega) (Sub.cons rfl (Sub.cons rfl (Sub.cons rfl (Sub.cons rfl (Sub.cons rfl (Sub.cons rfl (Sub.cons rfl Sub.nil))))))))
                  · skip
                    refine tr_exit (hK11 _ _ (TrC.keep [74, 5, 71, 4, 29, 3, 24, 1] ?_))
                    show TrC _ _ _ _ [(74, _), (5, _), (71, _), (4, _), (29, _), (3, _), (24, _), (1, _)] _ _
                    -- region 5: ref.go:30
                    refine tr_region ?_
                    refine tr_val (ov_move rfl rfl) rfl rfl rfl ?_
                    refine tr_val (ov_add rfl rfl rfl (w64 (by omega))) rfl rfl rfl ?_
                    refine tr_val (ov_assign rfl rfl) rfl rfl rfl ?_
                    skip
                    exact tr_nil (hK8 (i + 1) _ _ (⟨by omega, by omega, (snd_iff hi0 (by omega)).mpr ⟨hs, ⟨by omega, by omega, by omega, by omega⟩, fun hi => (by (exfalso; omega)), not_take (f := (·.id)) hi0 (by omega) (fun j j0 j1 => (hn j j0 (by omega)).1), not_take (f := (·.gen)) hi0 (by omega) (fun j j0 j1 => (hn j j0 (by omega)).2)⟩, H.drop0⟩) (by omega) (Sub.cons rfl (Sub.cons rfl (Sub.cons rfl Sub.nil))))
      · skip
        refine tr_exit (hK6 _ _ (TrC.keep [29, 3, 24, 1] ?_))
        show TrC _ _ _ _ [(29, _), (3, _), (24, _), (1, _)] _ _
        refine tr_seq (fun K36 hK36 => ?_)
        -- region 14: ref.go:41
        refine tr_region ?_
        refine tr_val (ov_assign rfl rfl) rfl rfl rfl ?_
        refine tr_nil (hK36 _ _ (TrC.keep [2, 29, 3, 24, 1] ?_))
        show TrC _ _ _ _ [(2, _), (29, _), (3, _), (24, _), (1, _)] _ _
        refine tr_ret (post_ret1 (.inr rfl) rfl rfl ?_)
        (have e : X.take i.toNat = X := List.take_of_length_le (by omega); rw [e] at hs; exact ⟨congrArg Value.bool (sndB_true.mpr ⟨by omega, by omega, by omega, hs⟩).symm, H.drop0⟩)

/-! curfew/curfewref13.Clear -/
set_option maxRecDepth 20000 in
theorem ClearR_c (B : Option Addr) (c : Nat) (W : List RThing) (now last : Int) (w : World) (hW : W.length ≤ 60000) (hc : W.length ≤ c) (hO : (rdr B 4 (W.map encRThing)).holds w) (id : Int) : Does Try.prog 74 #[.agg #[.int .i64 now, .int .u64 last, .slice B (W).length c], .int .u64 id] w (fun v w' => ∃ A' c', v = .tuple #[.agg #[.int .i64 now, .int .u64 last, .slice A' ((dropR id W)).length c'], .agg #[.int .u64 (rOr (findR id W)).id, .int .u64 (rOr (findR id W)).gen, .int .i64 (rOr (findR id W)).due, .int .i64 (rOr (findR id W)).slot], .bool (findR id W).isSome] ∧ (dropR id W).length ≤ c' ∧ SH w (rdr B 4 (W.map encRThing)).foot [rdr A' 4 ((dropR id W).map encRThing)] w') := by
  refine does_enter2 Try.func74 rfl Try.ntmps74 rfl ?_
  have H := SH.own1 hO
  refine tr_seq (fun K1 hK1 => ?_)
  -- region 0: ref.go:45
  refine tr_region ?_
  refine tr_box H rfl rfl rfl rfl rfl rfl ?_
  intro b1 w1 hb1 H
  refine tr_alloc H rfl (Try.zeroValue85 _) rfl rfl rfl rfl ?_
  intro b2 w2 hb2 H
  refine tr_alloc H rfl (Try.zeroValue59 _) rfl rfl rfl rfl ?_
  intro b3 w3 hb3 H
  refine tr_val (ov_assign rfl rfl) rfl rfl rfl ?_
  refine tr_nil (hK1 _ _ (TrC.keep [6, 5, 4, 2, 1] ?_))
  show TrC _ _ _ _ [(6, _), (5, _), (4, _), (2, _), (1, _)] _ _
  refine tr_seq (fun K2 hK2 => ?_)
  -- region 1: ref.go:46
  refine tr_region ?_
  refine tr_val (ov_fieldAddr rfl Try.underlying85 rfl (Try.sizeOf2 _) (by decide) rfl) rfl rfl rfl ?_
  refine tr_val (ov_load_blk H.get2 rfl (Try.isAgg2 _) rfl rfl rfl) rfl rfl rfl ?_
  refine tr_val (ov_fieldAddr rfl Try.underlying85 rfl (Try.sizeOf46 _) (by decide) rfl) rfl rfl rfl ?_
  refine tr_val (ov_load_blk H.get2 rfl (Try.isAgg46 _) rfl rfl rfl) rfl rfl rfl ?_
  refine tr_val (ov_build rfl (fun ρ k => bs2 k rfl rfl) (bld48_0_1 _ _ _ _ _)) rfl rfl rfl ?_
  refine tr_val (ov_move rfl rfl) rfl rfl rfl ?_
  refine tr_call (CancelR_c B c W now _ (rdr_rd H.get3) hW hc id) rfl rfl rfl Try.call64 rfl rfl rfl ?_
  rintro _ w4 ⟨A1, c1, rfl, HN⟩
  obtain ⟨hc1, HC⟩ := HN.own H.get3 hc
  have H := H.top3.call1 HC
  refine tr_val (ov_move rfl rfl) rfl rfl rfl ?_
  refine tr_val (ov_extract rfl rfl rfl) rfl rfl rfl ?_
  refine tr_val (ov_extract rfl rfl rfl) rfl rfl rfl ?_
  refine tr_val (ov_extract rfl rfl rfl) rfl rfl rfl ?_
  refine tr_alloc H rfl (Try.zeroValue48 _) rfl rfl rfl rfl ?_
  intro b4 w5 hb4 H
  refine tr_alloc H rfl (Try.zeroValue59 _) rfl rfl rfl rfl ?_
  intro b5 w6 hb5 H
  (refine tr_storeW H.get1 rfl (Try.sizeOf48 _) rfl rfl rfl rfl rfl rfl rfl rfl ?_; intro w7 U; have H := H.upd1 U; clear U)
  (refine tr_storeW H.get0 rfl (Try.sizeOf59 _) rfl rfl rfl rfl rfl rfl rfl rfl ?_; intro w8 U; have H := H.upd0 U; clear U)
  refine tr_val (ov_assign rfl rfl) rfl rfl rfl ?_
  refine tr_nil (hK2 _ _ (TrC.keep [9, 8, 7, 6, 5, 4, 2] ?_))
  show TrC _ _ _ _ [(9, _), (8, _), (7, _), (6, _), (5, _), (4, _), (2, _)] _ _
  refine tr_seq (fun K3 hK3 => ?_)
  -- region 2: ref.go:47
  refine tr_region ?_
  refine tr_val (ov_fieldAddr rfl Try.underlying48 rfl (Try.sizeOf46 _) (by decide) rfl) rfl rfl rfl ?_
  refine tr_val (ov_load_blk H.get1 rfl (Try.isAgg46 _) rfl rfl rfl) rfl rfl rfl ?_
  refine tr_val (ov_fieldAddr rfl Try.underlying85 rfl (Try.sizeOf46 _) (by decide) rfl) rfl rfl rfl ?_
  (refine tr_store H.get5 rfl (Try.sizeOf46 _) rfl rfl rfl rfl rfl rfl rfl ?_; intro w9 U; have H := H.upd5 U; clear U)
  try simp only [List.set_cons_zero, List.set_cons_succ, Nat.zero_add] at H
  refine tr_nil (hK3 _ _ (TrC.keep [9, 8, 7, 6, 5, 4, 2] ?_))
  show TrC _ _ _ _ [(9, _), (8, _), (7, _), (6, _), (5, _), (4, _), (2, _)] _ _
  refine tr_seq (fun K4 hK4 => ?_)
  -- region 3: ref.go:48
  refine tr_held (fun w' => (blk b1 85 [.int .i64 now, .int .u64 last, .slice A1 ((dropR id W)).length c1]).holds w' ∧ (blk b5 59 [.int .u64 (rOr (findR id W)).id, .int .u64 (rOr (findR id W)).gen, .int .i64 (rOr (findR id W)).due, .int .i64 (rOr (findR id W)).slot]).holds w') mixed rfl H ?_
  intro w10 H
  refine th_take 0 rfl (by kernel_rfl) (by kernel_rfl) (by kernel_rfl) (⟨H.get5, H.get0⟩) (fun _ hS => ov_load_blkN hS.1 rfl (Try.isAgg85 _) (Try.sizeOf85 _) rfl rfl rfl) rfl rfl rfl ?_
  refine th_take 1 rfl (by kernel_rfl) (by kernel_rfl) (by kernel_rfl) (⟨H.get5, H.get0⟩) (fun _ hS => ov_load_blkN hS.2 rfl (Try.isAgg59 _) (Try.sizeOf59 _) rfl rfl rfl) rfl rfl rfl ?_
  refine th_take 2 rfl (by kernel_rfl) (by kernel_rfl) (by kernel_rfl) (⟨H.get5, H.get0⟩) (fun _ hS => ov_move rfl rfl) rfl rfl rfl ?_
  refine th_one 3 (by kernel_rfl) ?_
  (refine tw_storeW H.get4 rfl rfl (Try.sizeOf85 _) rfl rfl rfl rfl rfl rfl rfl rfl ?_; intro w11 U; have H := H.upd4 U; clear U)
  refine ⟨⟨H.get5, H.get0⟩, ?_⟩
  refine th_one 4 (by kernel_rfl) ?_
  (refine tw_storeW H.get3 rfl rfl (Try.sizeOf59 _) rfl rfl rfl rfl rfl rfl rfl rfl ?_; intro w12 U; have H := H.upd3 U; clear U)
  refine ⟨⟨H.get5, H.get0⟩, ?_⟩
  refine th_take 5 rfl (by kernel_rfl) (by kernel_rfl) (by kernel_rfl) (⟨H.get5, H.get0⟩) (fun _ hS => ov_assign rfl rfl) rfl rfl rfl ?_
  refine th_done (by kernel_rfl) ?_
  refine hK4 _ _ (TrC.keep [6, 9, 8, 7, 5, 4, 2] ?_)
  show TrC _ _ _ _ [(6, _), (9, _), (8, _), (7, _), (5, _), (4, _), (2, _)] _ _
  refine tr_ret (post_ret3 (.inr rfl) rfl (by exact ⟨_, rfl, res_blkN H.get4 (Try.isAgg85 _) (Try.sizeOf85 _) rfl rfl⟩) (by exact ⟨_, rfl, res_blkN H.get3 (Try.isAgg59 _) (Try.sizeOf59 _) rfl rfl⟩) rfl ?_)
  exact ⟨A1, c1, rfl, hc1, H.drop0.drop0.drop1.drop1.drop1⟩

/-! curfew/curfewref13.Advance -/
set_option maxRecDepth 20000 in
theorem AdvR13_c (B : Option Addr) (c : Nat) (W : List RThing) (now last : Int) (w : World) (hW : W.length ≤ 60000) (hc : W.length ≤ c) (hO : (rdr B 4 (W.map encRThing)).holds w) (to_ : Int) (hU : UpD W) : Does Try.prog 75 #[.agg #[.int .i64 now, .int .u64 last, .slice B (W).length c], .int .i64 to_] w (fun v w' => ∃ Af cf A' c', v = .tuple #[.agg #[.int .i64 (advN now to_), .int .u64 last, .slice A' ((advXR now to_ W)).length c'], .slice Af (advFR now to_ W).length cf, .int .i64 (advE now to_)] ∧ (advXR now to_ W).length ≤ c' ∧ SH w (rdr B 4 (W.map encRThing)).foot [rdr A' 4 ((advXR now to_ W).map encRThing), vec Af cf 59 4 encRThing (advFR now to_ W)] w') := by
  refine does_enter2 Try.func75 rfl Try.ntmps75 rfl ?_
  have H := SH.own1 hO
  refine tr_seq (fun K1 hK1 => ?_)
  -- region 0: ref.go:69
  refine tr_region ?_
  refine tr_box H rfl rfl rfl rfl rfl rfl ?_
  intro b1 w1 hb1 H
  refine tr_alloc H rfl (Try.zeroValue85 _) rfl rfl rfl rfl ?_
  intro b2 w2 hb2 H
  refine tr_val (ov_assign rfl rfl) rfl rfl rfl ?_
  refine tr_val (ov_assign rfl rfl) rfl rfl rfl ?_
  refine tr_nil (hK1 _ _ (TrC.keep [6, 5, 4, 2, 1] ?_))
  show TrC _ _ _ _ [(6, _), (5, _), (4, _), (2, _), (1, _)] _ _
  refine tr_seq (fun K2 hK2 => ?_)
  -- region 1: ref.go:70
  refine tr_region ?_
  refine tr_val (ov_fieldAddr rfl Try.underlying85 rfl (Try.sizeOf2 _) (by decide) rfl) rfl rfl rfl ?_
  refine tr_val (ov_load_blk H.get1 rfl (Try.isAgg2 _) rfl rfl rfl) rfl rfl rfl ?_
  refine tr_val (ov_fieldAddr rfl Try.underlying85 rfl (Try.sizeOf46 _) (by decide) rfl) rfl rfl rfl ?_
  refine tr_val (ov_load_blk H.get1 rfl (Try.isAgg46 _) rfl rfl rfl) rfl rfl rfl ?_
  refine tr_val (ov_build rfl (fun ρ k => bs2 k rfl rfl) (bld48_0_1 _ _ _ _ _)) rfl rfl rfl ?_
  refine tr_val (ov_move rfl rfl) rfl rfl rfl ?_
  refine tr_call (AdvanceR_c B c W now _ (rdr_rd H.get2) hW hc to_ hU) rfl rfl rfl Try.call66 rfl rfl rfl ?_
  rintro _ w3 ⟨Af, cf, A1, c1, rfl, HN⟩
  obtain ⟨hc1, HC⟩ := HN.own H.get2 hc
  have H := H.top2.call1e HC
  refine tr_val (ov_move rfl rfl) rfl rfl rfl ?_
  refine tr_val (ov_extract rfl rfl rfl) rfl rfl rfl ?_
  refine tr_val (ov_extract rfl rfl rfl) rfl rfl rfl ?_
  refine tr_val (ov_extract rfl rfl rfl) rfl rfl rfl ?_
  refine tr_alloc H rfl (Try.zeroValue48 _) rfl rfl rfl rfl ?_
  intro b4 w4 hb4 H
  (refine tr_storeW H.get0 rfl (Try.sizeOf48 _) rfl rfl rfl rfl rfl rfl rfl rfl ?_; intro w5 U; have H := H.upd0 U; clear U)
  refine tr_val (ov_assign rfl rfl) rfl rfl rfl ?_
  refine tr_val (ov_assign rfl rfl) rfl rfl rfl ?_
  refine tr_nil (hK2 _ _ (TrC.keep [9, 8, 7, 6, 5, 4, 2] ?_))
  show TrC _ _ _ _ [(9, _), (8, _), (7, _), (6, _), (5, _), (4, _), (2, _)] _ _
  refine tr_seq (fun K3 hK3 => ?_)
  -- region 2: ref.go:71
  refine tr_region ?_
  refine tr_val (ov_fieldAddr rfl Try.underlying48 rfl (Try.sizeOf2 _) (by decide) rfl) rfl rfl rfl ?_
  refine tr_val (ov_load_blk H.get0 rfl (Try.isAgg2 _) rfl rfl rfl) rfl rfl rfl ?_
  refine tr_val (ov_fieldAddr rfl Try.underlying85 rfl (Try.sizeOf2 _) (by decide) rfl) rfl rfl rfl ?_
  (refine tr_store H.get4 rfl (Try.sizeOf2 _) rfl rfl rfl rfl rfl rfl rfl ?_; intro w6 U; have H := H.upd4 U; clear U)
  try simp only [List.set_cons_zero, List.set_cons_succ, Nat.zero_add] at H
  refine tr_nil (hK3 _ _ (TrC.keep [9, 8, 7, 6, 5, 4, 2] ?_))
  show TrC _ _ _ _ [(9, _), (8, _), (7, _), (6, _), (5, _), (4, _), (2, _)] _ _
  refine tr_seq (fun K4 hK4 => ?_)
  -- region 3: ref.go:72
  refine tr_region ?_
  refine tr_val (ov_fieldAddr rfl Try.underlying48 rfl (Try.sizeOf46 _) (by decide) rfl) rfl rfl rfl ?_
  refine tr_val (ov_load_blk H.get0 rfl (Try.isAgg46 _) rfl rfl rfl) rfl rfl rfl ?_
  refine tr_val (ov_fieldAddr rfl Try.underlying85 rfl (Try.sizeOf46 _) (by decide) rfl) rfl rfl rfl ?_
  (refine tr_store H.get4 rfl (Try.sizeOf46 _) rfl rfl rfl rfl rfl rfl rfl ?_; intro w7 U; have H := H.upd4 U; clear U)
  try simp only [List.set_cons_zero, List.set_cons_succ, Nat.zero_add] at H
  refine tr_nil (hK4 _ _ (TrC.keep [9, 8, 7, 6, 5, 4, 2] ?_))
  show TrC _ _ _ _ [(9, _), (8, _), (7, _), (6, _), (5, _), (4, _), (2, _)] _ _
  refine tr_seq (fun K5 hK5 => ?_)
  -- region 4: ref.go:73
  refine tr_region ?_
  refine tr_val (ov_load_blkN H.get4 rfl (Try.isAgg85 _) (Try.sizeOf85 _) rfl rfl rfl) rfl rfl rfl ?_
  refine tr_val (ov_move rfl rfl) rfl rfl rfl ?_
  refine tr_val (ov_move rfl rfl) rfl rfl rfl ?_
  (refine tr_storeW H.get3 rfl (Try.sizeOf85 _) rfl rfl rfl rfl rfl rfl rfl rfl ?_; intro w8 U; have H := H.upd3 U; clear U)
  refine tr_val (ov_assign rfl rfl) rfl rfl rfl ?_
  refine tr_val (ov_assign rfl rfl) rfl rfl rfl ?_
  refine tr_nil (hK5 _ _ (TrC.keep [6, 5, 9, 8, 7, 4, 2] ?_))
  show TrC _ _ _ _ [(6, _), (5, _), (9, _), (8, _), (7, _), (4, _), (2, _)] _ _
  refine tr_ret (post_ret3 (.inr rfl) rfl (by exact ⟨_, rfl, res_blkN H.get3 (Try.isAgg85 _) (Try.sizeOf85 _) rfl rfl⟩) rfl rfl ?_)
  exact ⟨Af, cf, A1, c1, rfl, hc1, H.drop0.drop2.drop2⟩

def setS (last : Int) (X : List Thing) (id due : Int) : List Thing := if setE last X id due = 0 then sortT (setX last X id due) else X
theorem setS_ok {last : Int} {X : List Thing} {id due : Int} (h : setE last X id due = 0) : zR (setS last X id due) = sortR (zR (dropT id X) ++ [toR ⟨id, last + 1, due⟩ 0]) := by
  unfold setS setX
  rw [if_pos h, if_pos h, zR_snoc, sortR_z]
theorem setS_no {last : Int} {X : List Thing} {id due : Int} (h : ¬ setE last X id due = 0) : setS last X id due = X := by unfold setS; rw [if_neg h]
theorem isSome_idx (id : Int) (X : List Thing) : (findT id X).isSome = decide (0 ≤ idxR id (zR X)) := by
  have h1 : (findR id (zR X)).isSome = (findT id X).isSome := by rw [findR_z, Option.isSome_map]
  rw [← h1]
  by_cases h : idxR id (zR X) < 0
  · rw [idxR_neg h, decide_eq_false (by omega)]; rfl
  · obtain ⟨r, hr⟩ := idxR_pos h
    rw [hr, decide_eq_true (by omega)]; rfl

/-! curfew/curfewref13.Set -/
set_option maxRecDepth 20000 in
theorem SetR13_c (B : Option Addr) (c : Nat) (X : List Thing) (now last : Int) (w : World) (hl : X.length ≤ 256) (hla : 0 ≤ last ∧ last ≤ 1152921504606846976) (hc : (zR X).length ≤ c) (hO : (rdr B 4 ((zR X).map encRThing)).holds w) (id due : Int) : Does Try.prog 76 #[.agg #[.int .i64 now, .int .u64 last, .slice B ((zR X)).length c], .int .u64 id, .int .i64 due] w (fun v w' => ∃ A' c', v = .tuple #[.agg #[.int .i64 now, .int .u64 (setN last X id due), .slice A' ((zR (setS last X id due))).length c'], .int .u64 (setR last X id due), .int .i64 (setE last X id due)] ∧ (zR (setS last X id due)).length ≤ c' ∧ SH w (rdr B 4 ((zR X).map encRThing)).foot [rdr A' 4 ((zR (setS last X id due)).map encRThing)] w') := by
  refine does_enter3 Try.func76 rfl Try.ntmps76 rfl ?_
  have H := SH.own1 hO
  have hzl := zR_len X
  have hdl := zR_len (dropT id X)
  have hdl2 := dropT_le (id := id) (X := X)
  have hix := isSome_idx id X
  refine tr_seq (fun K1 hK1 => ?_)
  -- region 0: ref.go:52
  refine tr_region ?_
  refine tr_box H rfl rfl rfl rfl rfl rfl ?_
  intro b1 w1 hb1 H
  refine tr_alloc H rfl (Try.zeroValue85 _) rfl rfl rfl rfl ?_
  intro b2 w2 hb2 H
  refine tr_val (ov_assign rfl rfl) rfl rfl rfl ?_
  refine tr_val (ov_assign rfl rfl) rfl rfl rfl ?_
  refine tr_nil (hK1 _ _ (TrC.keep [8, 7, 6, 3, 1, 2] ?_))
  show TrC _ _ _ _ [(8, _), (7, _), (6, _), (3, _), (1, _), (2, _)] _ _
  refine tr_seq (fun K2 hK2 => ?_)
  refine tr_seq (fun K3 hK3 => ?_)
  -- region 1: ref.go:53
  refine tr_region ?_
  refine tr_val (ov_move rfl rfl) rfl rfl rfl ?_
  refine tr_val (ov_lss rfl rfl rfl) rfl rfl rfl ?_
  refine tr_val (ov_move rfl rfl) rfl rfl rfl ?_
  refine tr_split (t := 11) rfl (fun s11 => ?_) (fun s11 => ?_)
  · skip
    refine tr_pass rfl rfl rfl ?_
    refine tr_pass rfl rfl rfl ?_
    refine tr_val (ov_pick (vb := undef) rfl rfl rfl rfl) rfl rfl rfl ?_
    refine tr_nil (hK3 _ _ (TrC.keep [14, 8, 7, 6, 3, 1, 2] ?_))
    show TrC _ _ _ _ [(14, _), (8, _), (7, _), (6, _), (3, _), (1, _), (2, _)] _ _
    refine tr_cond_t rfl rfl ?_
    refine tr_seq (fun K4 hK4 => ?_)
    -- region 2: ref.go:54
    refine tr_region ?_
    refine tr_val (ov_load_blkN H.get1 rfl (Try.isAgg85 _) (Try.sizeOf85 _) rfl rfl rfl) rfl rfl rfl ?_
    (refine tr_storeW H.get0 rfl (Try.sizeOf85 _) rfl rfl rfl rfl rfl rfl rfl rfl ?_; intro w3 U; have H := H.upd0 U; clear U)
    refine tr_val (ov_assign rfl rfl) rfl rfl rfl ?_
    refine tr_val (ov_assign rfl rfl) rfl rfl rfl ?_
    refine tr_nil (hK4 _ _ (TrC.keep [8, 7, 14, 6, 3, 1, 2] ?_))
    show TrC _ _ _ _ [(8, _), (7, _), (14, _), (6, _), (3, _), (1, _), (2, _)] _ _
    refine tr_ret (post_ret3 (.inr rfl) rfl (by exact ⟨_, rfl, res_blkN H.get0 (Try.isAgg85 _) (Try.sizeOf85 _) rfl rfl⟩) rfl rfl ?_)
    (have he : setE last X id due = 2 := (by unfold setE; rw [if_pos (by omega)]); have hn : ¬ setE last X id due = 0 := (by rw [he]; decide); unfold setN setR; rw [if_neg hn, if_neg hn, setS_no hn, he]; exact ⟨B, c, rfl, hc, H.drop0.drop0⟩)
  · skip
    refine tr_val (ov_move rfl rfl) rfl rfl rfl ?_
    refine tr_val (ov_gtr rfl rfl rfl) rfl rfl rfl ?_
    refine tr_val (ov_pick_f (va := undef) rfl rfl rfl rfl) rfl rfl rfl ?_
    refine tr_nil (hK3 _ _ (TrC.keep [14, 8, 7, 6, 3, 1, 2] ?_))
    show TrC _ _ _ _ [(14, _), (8, _), (7, _), (6, _), (3, _), (1, _), (2, _)] _ _
    refine tr_cond rfl (fun c14 => ?_) (fun c14 => ?_)
    · skip
      refine tr_seq (fun K5 hK5 => ?_)
      -- region 2: ref.go:54
      refine tr_region ?_
      refine tr_val (ov_load_blkN H.get1 rfl (Try.isAgg85 _) (Try.sizeOf85 _) rfl rfl rfl) rfl rfl rfl ?_
      (refine tr_storeW H.get0 rfl (Try.sizeOf85 _) rfl rfl rfl rfl rfl rfl rfl rfl ?_; intro w4 U; have H := H.upd0 U; clear U)
      refine tr_val (ov_assign rfl rfl) rfl rfl rfl ?_
      refine tr_val (ov_assign rfl rfl) rfl rfl rfl ?_
      refine tr_nil (hK5 _ _ (TrC.keep [8, 7, 14, 6, 3, 1, 2] ?_))
      show TrC _ _ _ _ [(8, _), (7, _), (14, _), (6, _), (3, _), (1, _), (2, _)] _ _
      refine tr_ret (post_ret3 (.inr rfl) rfl (by exact ⟨_, rfl, res_blkN H.get0 (Try.isAgg85 _) (Try.sizeOf85 _) rfl rfl⟩) rfl rfl ?_)
      (have he : setE last X id due = 2 := (by unfold setE; rw [if_pos (by omega)]); have hn : ¬ setE last X id due = 0 := (by rw [he]; decide); unfold setN setR; rw [if_neg hn, if_neg hn, setS_no hn, he]; exact ⟨B, c, rfl, hc, H.drop0.drop0⟩)
    · skip
      refine tr_skip (hK2 _ _ (TrC.keep [14, 8, 7, 6, 3, 1, 2] ?_))
      show TrC _ _ _ _ [(14, _), (8, _), (7, _), (6, _), (3, _), (1, _), (2, _)] _ _
      refine tr_seq (fun K6 hK6 => ?_)
      refine tr_seq (fun K7 hK7 => ?_)
      -- region 3: ref.go:56
      refine tr_region ?_
      refine tr_val (ov_fieldAddr rfl Try.underlying85 rfl (Try.sizeOf28 _) (by decide) rfl) rfl rfl rfl ?_
      refine tr_val (ov_load_blk H.get1 rfl (Try.isAgg28 _) rfl rfl rfl) rfl rfl rfl ?_
      refine tr_val (ov_geq rfl rfl rfl) rfl rfl rfl ?_
      refine tr_nil (hK7 _ _ (TrC.keep [18, 14, 8, 7, 6, 3, 1, 2] ?_))
      show TrC _ _ _ _ [(18, _), (14, _), (8, _), (7, _), (6, _), (3, _), (1, _), (2, _)] _ _
      refine tr_cond rfl (fun c18 => ?_) (fun c18 => ?_)
      · skip
        refine tr_seq (fun K8 hK8 => ?_)
        -- region 4: ref.go:57
        refine tr_region ?_
        refine tr_val (ov_load_blkN H.get1 rfl (Try.isAgg85 _) (Try.sizeOf85 _) rfl rfl rfl) rfl rfl rfl ?_
        (refine tr_storeW H.get0 rfl (Try.sizeOf85 _) rfl rfl rfl rfl rfl rfl rfl rfl ?_; intro w5 U; have H := H.upd0 U; clear U)
        refine tr_val (ov_assign rfl rfl) rfl rfl rfl ?_
        refine tr_val (ov_assign rfl rfl) rfl rfl rfl ?_
        refine tr_nil (hK8 _ _ (TrC.keep [8, 7, 18, 14, 6, 3, 1, 2] ?_))
        show TrC _ _ _ _ [(8, _), (7, _), (18, _), (14, _), (6, _), (3, _), (1, _), (2, _)] _ _
        refine tr_ret (post_ret3 (.inr rfl) rfl (by exact ⟨_, rfl, res_blkN H.get0 (Try.isAgg85 _) (Try.sizeOf85 _) rfl rfl⟩) rfl rfl ?_)
        (have he : setE last X id due = 10 := (by unfold setE; rw [if_neg (by omega), if_pos (by omega)]); have hn : ¬ setE last X id due = 0 := (by rw [he]; decide); unfold setN setR; rw [if_neg hn, if_neg hn, setS_no hn, he]; exact ⟨B, c, rfl, hc, H.drop0.drop0⟩)
      · skip
        refine tr_skip (hK6 _ _ (TrC.keep [18, 14, 8, 7, 6, 3, 1, 2] ?_))
        show TrC _ _ _ _ [(18, _), (14, _), (8, _), (7, _), (6, _), (3, _), (1, _), (2, _)] _ _
        refine tr_seq (fun K9 hK9 => ?_)
        refine tr_seq (fun K10 hK10 => ?_)
        -- region 5: ref.go:59
        refine tr_region ?_
        refine tr_val (ov_fieldAddr rfl Try.underlying85 rfl (Try.sizeOf46 _) (by decide) rfl) rfl rfl rfl ?_
        refine tr_val (ov_load_blk H.get1 rfl (Try.isAgg46 _) rfl rfl rfl) rfl rfl rfl ?_
        refine tr_val (ov_len rfl rfl Try.underlying46 rfl) rfl rfl rfl ?_
        refine tr_val (ov_geq rfl rfl rfl) rfl rfl rfl ?_
        refine tr_val (ov_move rfl rfl) rfl rfl rfl ?_
        refine tr_split (t := 24) rfl (fun s24 => ?_) (fun s24 => ?_)
        · skip
          refine tr_val (ov_fieldAddr rfl Try.underlying85 rfl (Try.sizeOf46 _) (by decide) rfl) rfl rfl rfl ?_
          refine tr_val (ov_load_blk H.get1 rfl (Try.isAgg46 _) rfl rfl rfl) rfl rfl rfl ?_
          refine tr_val (ov_move rfl rfl) rfl rfl rfl ?_
          refine tr_call (FindR_c B c (zR X) _ (rdr_rd H.get2) (by omega) id) rfl rfl rfl Try.call67 rfl rfl rfl ?_
          rintro _ w6 ⟨rfl, HC⟩
          have H := H.call0n HC
          refine tr_val (ov_lss rfl rfl rfl) rfl rfl rfl ?_
          refine tr_val (ov_pick (vb := undef) rfl rfl rfl rfl) rfl rfl rfl ?_
          refine tr_nil (hK10 _ _ (TrC.keep [30, 18, 14, 8, 7, 6, 3, 1, 2] ?_))
          show TrC _ _ _ _ [(30, _), (18, _), (14, _), (8, _), (7, _), (6, _), (3, _), (1, _), (2, _)] _ _
          refine tr_cond rfl (fun c30 => ?_) (fun c30 => ?_)
          · skip
            refine tr_seq (fun K11 hK11 => ?_)
            -- region 6: ref.go:60
            refine tr_region ?_
            refine tr_val (ov_load_blkN H.get1 rfl (Try.isAgg85 _) (Try.sizeOf85 _) rfl rfl rfl) rfl rfl rfl ?_
            (refine tr_storeW H.get0 rfl (Try.sizeOf85 _) rfl rfl rfl rfl rfl rfl rfl rfl ?_; intro w7 U; have H := H.upd0 U; clear U)
            refine tr_val (ov_assign rfl rfl) rfl rfl rfl ?_
            refine tr_val (ov_assign rfl rfl) rfl rfl rfl ?_
            refine tr_nil (hK11 _ _ (TrC.keep [8, 7, 30, 18, 14, 6, 3, 1, 2] ?_))
            show TrC _ _ _ _ [(8, _), (7, _), (30, _), (18, _), (14, _), (6, _), (3, _), (1, _), (2, _)] _ _
            refine tr_ret (post_ret3 (.inr rfl) rfl (by exact ⟨_, rfl, res_blkN H.get0 (Try.isAgg85 _) (Try.sizeOf85 _) rfl rfl⟩) rfl rfl ?_)
            (have he : setE last X id due = 30 := (by unfold setE; rw [if_neg (by omega), if_neg (by omega), if_pos ⟨by rw [hix]; exact decide_eq_false (by omega), by omega⟩]); have hn : ¬ setE last X id due = 0 := (by rw [he]; decide); unfold setN setR; rw [if_neg hn, if_neg hn, setS_no hn, he]; exact ⟨B, c, rfl, hc, H.drop0.drop0⟩)
          · skip
            refine tr_skip (hK9 _ _ (TrC.keep [30, 18, 14, 8, 7, 6, 3, 1, 2] ?_))
            show TrC _ _ _ _ [(30, _), (18, _), (14, _), (8, _), (7, _), (6, _), (3, _), (1, _), (2, _)] _ _
            refine tr_seq (fun K12 hK12 => ?_)
            -- region 7: ref.go:62
            refine tr_region ?_
            refine tr_val (ov_load_blkN H.get1 rfl (Try.isAgg85 _) (Try.sizeOf85 _) rfl rfl rfl) rfl rfl rfl ?_
            refine tr_val (ov_move rfl rfl) rfl rfl rfl ?_
            refine tr_call (ClearR_c B c (zR X) now last _ (by omega) hc H.get2 id) rfl rfl rfl Try.call74 rfl rfl rfl ?_
            rintro _ w8 ⟨A1, c1, rfl, hc1, HC⟩
            have H := H.top2.call1 HC
            rw [dropR_z] at H hc1 ⊢
            refine tr_val (ov_move rfl rfl) rfl rfl rfl ?_
            refine tr_val (ov_extract rfl rfl rfl) rfl rfl rfl ?_
            refine tr_val (ov_extract rfl rfl rfl) rfl rfl rfl ?_
            refine tr_val (ov_extract rfl rfl rfl) rfl rfl rfl ?_
            (refine tr_storeW H.get2 rfl (Try.sizeOf85 _) rfl rfl rfl rfl rfl rfl rfl rfl ?_; intro w9 U; have H := H.upd2 U; clear U)
            refine tr_nil (hK12 _ _ (TrC.keep [30, 18, 14, 8, 7, 6, 3, 1, 2] ?_))
            show TrC _ _ _ _ [(30, _), (18, _), (14, _), (8, _), (7, _), (6, _), (3, _), (1, _), (2, _)] _ _
            refine tr_seq (fun K13 hK13 => ?_)
            -- region 8: ref.go:63
            refine tr_region ?_
            refine tr_val (ov_fieldAddr rfl Try.underlying85 rfl (Try.sizeOf28 _) (by decide) rfl) rfl rfl rfl ?_
            refine tr_val (ov_load_blk H.get2 rfl (Try.isAgg28 _) rfl rfl rfl) rfl rfl rfl ?_
            refine tr_val (ov_add rfl rfl rfl (wu64 (by omega))) rfl rfl rfl ?_
            refine tr_val (ov_fieldAddr rfl Try.underlying85 rfl (Try.sizeOf28 _) (by decide) rfl) rfl rfl rfl ?_
            (refine tr_store H.get2 rfl (Try.sizeOf28 _) rfl rfl rfl rfl rfl rfl rfl ?_; intro w10 U; have H := H.upd2 U; clear U)
            try simp only [List.set_cons_zero, List.set_cons_succ, Nat.zero_add] at H
            refine tr_nil (hK13 _ _ (TrC.keep [30, 18, 14, 8, 7, 6, 3, 1, 2] ?_))
            show TrC _ _ _ _ [(30, _), (18, _), (14, _), (8, _), (7, _), (6, _), (3, _), (1, _), (2, _)] _ _
            refine tr_seq (fun K14 hK14 => ?_)
            -- region 9: ref.go:64
            refine tr_held (fun w' => ∃ x, (blk b1 85 [.int .i64 now, .int .u64 (last + 1), x]).holds w') mixed rfl H ?_
            intro w11 H
            refine th_take 1 rfl (by kernel_rfl) (by kernel_rfl) (by kernel_rfl) ((by exact ⟨_, H.get2⟩)) (fun _ hS => ov_fieldAddr rfl Try.underlying85 rfl (Try.sizeOf46 _) (by decide) rfl) rfl rfl rfl ?_
            refine th_take 4 rfl (by kernel_rfl) (by kernel_rfl) (by kernel_rfl) ((by exact ⟨_, H.get2⟩)) (fun _ hS => ov_move rfl rfl) rfl rfl rfl ?_
            refine th_take 5 rfl (by kernel_rfl) (by kernel_rfl) (by kernel_rfl) ((by exact ⟨_, H.get2⟩)) (fun _ hS => ov_fieldAddr rfl Try.underlying85 rfl (Try.sizeOf28 _) (by decide) rfl) rfl rfl rfl ?_
            refine th_take 6 rfl (by kernel_rfl) (by kernel_rfl) (by kernel_rfl) ((by exact ⟨_, H.get2⟩)) (fun _ hS => (hS.elim fun _ hx => ov_load_blk hx rfl (Try.isAgg28 _) rfl rfl rfl)) rfl rfl rfl ?_
            refine th_take 7 rfl (by kernel_rfl) (by kernel_rfl) (by kernel_rfl) ((by exact ⟨_, H.get2⟩)) (fun _ hS => ov_move rfl rfl) rfl rfl rfl ?_
            refine th_take 8 rfl (by kernel_rfl) (by kernel_rfl) (by kernel_rfl) ((by exact ⟨_, H.get2⟩)) (fun _ hS => ov_build rfl (fun ρ k => bs3 k rfl rfl rfl) (bld59_0_1_2 _ _ _ _)) rfl rfl rfl ?_
            refine th_three 0 2 9 (by kernel_rfl) ?_ ?_ ?_
            · skip
              refine tw_buildSlice0 H rfl rfl Try.underlying46 info59 rfl rfl rfl ?_
              intro b6 w16 hb6 H
              have H := H.upd0 (upd_vec_of_blk (L := ([] : List RThing)) (enc := encRThing) (sz := 4) H.get0 rfl lenRThing (by simp))
              refine ⟨(by exact ⟨_, H.get3⟩), ?_⟩
              refine th_two 2 9 (by kernel_rfl) ?_ ?_
              · skip
                refine tw_val (ov_load_blk H.get3 rfl (Try.isAgg46 _) rfl rfl rfl) rfl ((by exact ⟨_, H.get3⟩)) rfl rfl rfl ?_
                refine th_two 3 9 (by kernel_rfl) ?_ ?_
                · skip
                  (refine tw_append (M := zR (dropT id X)) (L := ([] : List RThing)) H.get0 (rdr_rd H.get1) rfl rfl rfl rfl Try.underlying46 info59 rfl rfl (show Try.t59.bytes = 32 from rfl) rfl (by decide) lenRThing oneRThing (by rw [List.length_nil]; omega) (by rw [List.length_nil]; unfold maxLen; omega) rfl rfl rfl ?_; intro A2 c2 w20 U; have H := H.upd0 U; clear U; rw [List.nil_append] at H ⊢; refine ⟨(by exact ⟨_, H.get3⟩), ?_⟩)
                  refine th_one 9 (by kernel_rfl) ?_
                  refine tw_buildSlice H rfl rfl Try.underlying46 info59 rfl (fun ρ k => bs1 k rfl) (by decide) (by decide) (fill_RThing_1 _ _ _ _) rfl rfl rfl ?_
                  intro b7 w7 hb7 H
                  refine ⟨(by exact ⟨_, H.get4⟩), ?_⟩
                  refine th_one 10 (by kernel_rfl) ?_
                  (refine tw_append (M := [toR ⟨id, last + 1, due⟩ 0]) (L := zR (dropT id X)) H.get1 (rd_blk [toR ⟨id, last + 1, due⟩ 0] H.get0 rfl lenRThing) rfl rfl rfl rfl Try.underlying46 info59 rfl rfl (show Try.t59.bytes = 32 from rfl) rfl (by decide) lenRThing oneRThing (by rw [List.length_singleton]; omega) (by rw [List.length_singleton]; unfold maxLen; omega) rfl rfl rfl ?_; intro A3 c3 w30 U; have H := H.upd1 U; clear U; refine ⟨(by exact ⟨_, H.get4⟩), ?_⟩)
                  refine th_one 11 (by kernel_rfl) ?_
                  refine tw_call (SortedR_c A3 c3 (zR (dropT id X) ++ [toR ⟨id, last + 1, due⟩ 0]) _ (by exact vec_rd H.get1 lenRThing (by decide)) (by simp; omega)) rfl rfl rfl rfl Try.call105 rfl rfl rfl ?_
                  rintro _ w12 ⟨A4, c4, rfl, HC⟩
                  have H := H.call0r HC
                  refine ⟨(by exact ⟨_, H.get5⟩), ?_⟩
                  refine th_take 12 rfl (by kernel_rfl) (by kernel_rfl) (by kernel_rfl) ((by exact ⟨_, H.get5⟩)) (fun _ hS => ov_fieldAddr rfl Try.underlying85 rfl (Try.sizeOf46 _) (by decide) rfl) rfl rfl rfl ?_
                  refine th_one 13 (by kernel_rfl) ?_
                  (refine tw_store H.get5 rfl rfl (Try.sizeOf46 _) rfl rfl rfl rfl rfl rfl rfl ?_; intro w13 U; have H := H.upd5 U; clear U)
                  try simp only [List.set_cons_zero, List.set_cons_succ, Nat.zero_add] at H
                  refine ⟨(by exact ⟨_, H.get5⟩), ?_⟩
                  refine th_done (by kernel_rfl) ?_
                  refine hK14 _ _ (TrC.keep [30, 18, 14, 8, 7, 6, 3, 1, 2] ?_)
                  show TrC _ _ _ _ [(30, _), (18, _), (14, _), (8, _), (7, _), (6, _), (3, _), (1, _), (2, _)] _ _
                  refine tr_seq (fun K15 hK15 => ?_)
                  -- region 10: ref.go:65
                  refine tr_held (fun w' => (blk b1 85 [.int .i64 now, .int .u64 (last + 1), .slice A4 ((sortR (zR (dropT id X) ++ [toR ⟨id, last + 1, due⟩ 0]))).length c4]).holds w') mixed rfl H ?_
                  intro w14 H
                  refine th_take 0 rfl (by kernel_rfl) (by kernel_rfl) (by kernel_rfl) (H.get5) (fun _ hS => ov_load_blkN hS rfl (Try.isAgg85 _) (Try.sizeOf85 _) rfl rfl rfl) rfl rfl rfl ?_
                  refine th_take 1 rfl (by kernel_rfl) (by kernel_rfl) (by kernel_rfl) (H.get5) (fun _ hS => ov_fieldAddr rfl Try.underlying85 rfl (Try.sizeOf28 _) (by decide) rfl) rfl rfl rfl ?_
                  refine th_take 2 rfl (by kernel_rfl) (by kernel_rfl) (by kernel_rfl) (H.get5) (fun _ hS => ov_load_blk hS rfl (Try.isAgg28 _) rfl rfl rfl) rfl rfl rfl ?_
                  refine th_one 3 (by kernel_rfl) ?_
                  (refine tw_storeW H.get4 rfl rfl (Try.sizeOf85 _) rfl rfl rfl rfl rfl rfl rfl rfl ?_; intro w15 U; have H := H.upd4 U; clear U)
                  refine ⟨H.get5, ?_⟩
                  refine th_take 4 rfl (by kernel_rfl) (by kernel_rfl) (by kernel_rfl) (H.get5) (fun _ hS => ov_assign rfl rfl) rfl rfl rfl ?_
                  refine th_take 5 rfl (by kernel_rfl) (by kernel_rfl) (by kernel_rfl) (H.get5) (fun _ hS => ov_assign rfl rfl) rfl rfl rfl ?_
                  refine th_done (by kernel_rfl) ?_
                  refine hK15 _ _ (TrC.keep [8, 7, 30, 18, 14, 6, 3, 1, 2] ?_)
                  show TrC _ _ _ _ [(8, _), (7, _), (30, _), (18, _), (14, _), (6, _), (3, _), (1, _), (2, _)] _ _
                  refine tr_ret (post_ret3 (.inr rfl) rfl (by exact ⟨_, rfl, res_blkN H.get4 (Try.isAgg85 _) (Try.sizeOf85 _) rfl rfl⟩) rfl rfl ?_)
                  (have he : setE last X id due = 0 := (by unfold setE; rw [if_neg (by omega), if_neg (by omega), if_neg (by rw [hix]; simp; omega)]); unfold setN setR; rw [if_pos he, if_pos he, setS_ok he, he]; have H2 := H.drop1.drop1.drop1.drop1.drop1; exact ⟨A4, c4, rfl, vec_len H2.get0, H2.upd0 (upd_rdr_of_vec H2.get0 lenRThing (by decide))⟩)
                · skip
                  refine tw_buildSlice H rfl rfl Try.underlying46 info59 rfl (fun ρ k => bs1 k rfl) (by decide) (by decide) (fill_RThing_1 _ _ _ _) rfl rfl rfl ?_
                  intro b7 w7 hb7 H
                  refine ⟨(by exact ⟨_, H.get4⟩), ?_⟩
                  refine th_one 3 (by kernel_rfl) ?_
                  (refine tw_append (M := zR (dropT id X)) (L := ([] : List RThing)) H.get1 (rdr_rd H.get2) rfl rfl rfl rfl Try.underlying46 info59 rfl rfl (show Try.t59.bytes = 32 from rfl) rfl (by decide) lenRThing oneRThing (by rw [List.length_nil]; omega) (by rw [List.length_nil]; unfold maxLen; omega) rfl rfl rfl ?_; intro A2 c2 w20 U; have H := H.upd1 U; clear U; rw [List.nil_append] at H ⊢; refine ⟨(by exact ⟨_, H.get4⟩), ?_⟩)
                  refine th_one 10 (by kernel_rfl) ?_
                  (refine tw_append (M := [toR ⟨id, last + 1, due⟩ 0]) (L := zR (dropT id X)) H.get1 (rd_blk [toR ⟨id, last + 1, due⟩ 0] H.get0 rfl lenRThing) rfl rfl rfl rfl Try.underlying46 info59 rfl rfl (show Try.t59.bytes = 32 from rfl) rfl (by decide) lenRThing oneRThing (by rw [List.length_singleton]; omega) (by rw [List.length_singleton]; unfold maxLen; omega) rfl rfl rfl ?_; intro A3 c3 w30 U; have H := H.upd1 U; clear U; refine ⟨(by exact ⟨_, H.get4⟩), ?_⟩)
                  refine th_one 11 (by kernel_rfl) ?_
                  refine tw_call (SortedR_c A3 c3 (zR (dropT id X) ++ [toR ⟨id, last + 1, due⟩ 0]) _ (by exact vec_rd H.get1 lenRThing (by decide)) (by simp; omega)) rfl rfl rfl rfl Try.call105 rfl rfl rfl ?_
                  rintro _ w16 ⟨A4, c4, rfl, HC⟩
                  have H := H.call0r HC
                  refine ⟨(by exact ⟨_, H.get5⟩), ?_⟩
                  refine th_take 12 rfl (by kernel_rfl) (by kernel_rfl) (by kernel_rfl) ((by exact ⟨_, H.get5⟩)) (fun _ hS => ov_fieldAddr rfl Try.underlying85 rfl (Try.sizeOf46 _) (by decide) rfl) rfl rfl rfl ?_
                  refine th_one 13 (by kernel_rfl) ?_
                  (refine tw_store H.get5 rfl rfl (Try.sizeOf46 _) rfl rfl rfl rfl rfl rfl rfl ?_; intro w17 U; have H := H.upd5 U; clear U)
                  try simp only [List.set_cons_zero, List.set_cons_succ, Nat.zero_add] at H
                  refine ⟨(by exact ⟨_, H.get5⟩), ?_⟩
                  refine th_done (by kernel_rfl) ?_
                  refine hK14 _ _ (TrC.keep [30, 18, 14, 8, 7, 6, 3, 1, 2] ?_)
                  show TrC _ _ _ _ [(30, _), (18, _), (14, _), (8, _), (7, _), (6, _), (3, _), (1, _), (2, _)] _ _
                  refine tr_seq (fun K16 hK16 => ?_)
                  -- region 10: ref.go:65
                  refine tr_held (fun w' => (blk b1 85 [.int .i64 now, .int .u64 (last + 1), .slice A4 ((sortR (zR (dropT id X) ++ [toR ⟨id, last + 1, due⟩ 0]))).length c4]).holds w') mixed rfl H ?_
                  intro w18 H
                  refine th_take 0 rfl (by kernel_rfl) (by kernel_rfl) (by kernel_rfl) (H.get5) (fun _ hS => ov_load_blkN hS rfl (Try.isAgg85 _) (Try.sizeOf85 _) rfl rfl rfl) rfl rfl rfl ?_
                  refine th_take 1 rfl (by kernel_rfl) (by kernel_rfl) (by kernel_rfl) (H.get5) (fun _ hS => ov_fieldAddr rfl Try.underlying85 rfl (Try.sizeOf28 _) (by decide) rfl) rfl rfl rfl ?_
                  refine th_take 2 rfl (by kernel_rfl) (by kernel_rfl) (by kernel_rfl) (H.get5) (fun _ hS => ov_load_blk hS rfl (Try.isAgg28 _) rfl rfl rfl) rfl rfl rfl ?_
                  refine th_one 3 (by kernel_rfl) ?_
                  (refine tw_storeW H.get4 rfl rfl (Try.sizeOf85 _) rfl rfl rfl rfl rfl rfl rfl rfl ?_; intro w19 U; have H := H.upd4 U; clear U)
                  refine ⟨H.get5, ?_⟩
                  refine th_take 4 rfl (by kernel_rfl) (by kernel_rfl) (by kernel_rfl) (H.get5) (fun _ hS => ov_assign rfl rfl) rfl rfl rfl ?_
                  refine th_take 5 rfl (by kernel_rfl) (by kernel_rfl) (by kernel_rfl) (H.get5) (fun _ hS => ov_assign rfl rfl) rfl rfl rfl ?_
                  refine th_done (by kernel_rfl) ?_
                  refine hK16 _ _ (TrC.keep [8, 7, 30, 18, 14, 6, 3, 1, 2] ?_)
                  show TrC _ _ _ _ [(8, _), (7, _), (30, _), (18, _), (14, _), (6, _), (3, _), (1, _), (2, _)] _ _
                  refine tr_ret (post_ret3 (.inr rfl) rfl (by exact ⟨_, rfl, res_blkN H.get4 (Try.isAgg85 _) (Try.sizeOf85 _) rfl rfl⟩) rfl rfl ?_)
                  (have he : setE last X id due = 0 := (by unfold setE; rw [if_neg (by omega), if_neg (by omega), if_neg (by rw [hix]; simp; omega)]); unfold setN setR; rw [if_pos he, if_pos he, setS_ok he, he]; have H2 := H.drop1.drop1.drop1.drop1.drop1; exact ⟨A4, c4, rfl, vec_len H2.get0, H2.upd0 (upd_rdr_of_vec H2.get0 lenRThing (by decide))⟩)
              · skip
                refine tw_buildSlice H rfl rfl Try.underlying46 info59 rfl (fun ρ k => bs1 k rfl) (by decide) (by decide) (fill_RThing_1 _ _ _ _) rfl rfl rfl ?_
                intro b7 w7 hb7 H
                refine ⟨(by exact ⟨_, H.get4⟩), ?_⟩
                refine th_one 2 (by kernel_rfl) ?_
                refine tw_val (ov_load_blk H.get4 rfl (Try.isAgg46 _) rfl rfl rfl) rfl ((by exact ⟨_, H.get4⟩)) rfl rfl rfl ?_
                refine th_one 3 (by kernel_rfl) ?_
                (refine tw_append (M := zR (dropT id X)) (L := ([] : List RThing)) H.get1 (rdr_rd H.get2) rfl rfl rfl rfl Try.underlying46 info59 rfl rfl (show Try.t59.bytes = 32 from rfl) rfl (by decide) lenRThing oneRThing (by rw [List.length_nil]; omega) (by rw [List.length_nil]; unfold maxLen; omega) rfl rfl rfl ?_; intro A2 c2 w20 U; have H := H.upd1 U; clear U; rw [List.nil_append] at H ⊢; refine ⟨(by exact ⟨_, H.get4⟩), ?_⟩)
                refine th_one 10 (by kernel_rfl) ?_
                (refine tw_append (M := [toR ⟨id, last + 1, due⟩ 0]) (L := zR (dropT id X)) H.get1 (rd_blk [toR ⟨id, last + 1, due⟩ 0] H.get0 rfl lenRThing) rfl rfl rfl rfl Try.underlying46 info59 rfl rfl (show Try.t59.bytes = 32 from rfl) rfl (by decide) lenRThing oneRThing (by rw [List.length_singleton]; omega) (by rw [List.length_singleton]; unfold maxLen; omega) rfl rfl rfl ?_; intro A3 c3 w30 U; have H := H.upd1 U; clear U; refine ⟨(by exact ⟨_, H.get4⟩), ?_⟩)
                refine th_one 11 (by kernel_rfl) ?_
                refine tw_call (SortedR_c A3 c3 (zR (dropT id X) ++ [toR ⟨id, last + 1, due⟩ 0]) _ (by exact vec_rd H.get1 lenRThing (by decide)) (by simp; omega)) rfl rfl rfl rfl Try.call105 rfl rfl rfl ?_
                rintro _ w20 ⟨A4, c4, rfl, HC⟩
                have H := H.call0r HC
                refine ⟨(by exact ⟨_, H.get5⟩), ?_⟩
                refine th_take 12 rfl (by kernel_rfl) (by kernel_rfl) (by kernel_rfl) ((by exact ⟨_, H.get5⟩)) (fun _ hS => ov_fieldAddr rfl Try.underlying85 rfl (Try.sizeOf46 _) (by decide) rfl) rfl rfl rfl ?_
                refine th_one 13 (by kernel_rfl) ?_
                (refine tw_store H.get5 rfl rfl (Try.sizeOf46 _) rfl rfl rfl rfl rfl rfl rfl ?_; intro w21 U; have H := H.upd5 U; clear U)
                try simp only [List.set_cons_zero, List.set_cons_succ, Nat.zero_add] at H
                refine ⟨(by exact ⟨_, H.get5⟩), ?_⟩
                refine th_done (by kernel_rfl) ?_
                refine hK14 _ _ (TrC.keep [30, 18, 14, 8, 7, 6, 3, 1, 2] ?_)
                show TrC _ _ _ _ [(30, _), (18, _), (14, _), (8, _), (7, _), (6, _), (3, _), (1, _), (2, _)] _ _
                refine tr_seq (fun K17 hK17 => ?_)
                -- region 10: ref.go:65
                refine tr_held (fun w' => (blk b1 85 [.int .i64 now, .int .u64 (last + 1), .slice A4 ((sortR (zR (dropT id X) ++ [toR ⟨id, last + 1, due⟩ 0]))).length c4]).holds w') mixed rfl H ?_
                intro w22 H
                refine th_take 0 rfl (by kernel_rfl) (by kernel_rfl) (by kernel_rfl) (H.get5) (fun _ hS => ov_load_blkN hS rfl (Try.isAgg85 _) (Try.sizeOf85 _) rfl rfl rfl) rfl rfl rfl ?_
                refine th_take 1 rfl (by kernel_rfl) (by kernel_rfl) (by kernel_rfl) (H.get5) (fun _ hS => ov_fieldAddr rfl Try.underlying85 rfl (Try.sizeOf28 _) (by decide) rfl) rfl rfl rfl ?_
                refine th_take 2 rfl (by kernel_rfl) (by kernel_rfl) (by kernel_rfl) (H.get5) (fun _ hS => ov_load_blk hS rfl (Try.isAgg28 _) rfl rfl rfl) rfl rfl rfl ?_
                refine th_one 3 (by kernel_rfl) ?_
                (refine tw_storeW H.get4 rfl rfl (Try.sizeOf85 _) rfl rfl rfl rfl rfl rfl rfl rfl ?_; intro w23 U; have H := H.upd4 U; clear U)
                refine ⟨H.get5, ?_⟩
                refine th_take 4 rfl (by kernel_rfl) (by kernel_rfl) (by kernel_rfl) (H.get5) (fun _ hS => ov_assign rfl rfl) rfl rfl rfl ?_
                refine th_take 5 rfl (by kernel_rfl) (by kernel_rfl) (by kernel_rfl) (H.get5) (fun _ hS => ov_assign rfl rfl) rfl rfl rfl ?_
                refine th_done (by kernel_rfl) ?_
                refine hK17 _ _ (TrC.keep [8, 7, 30, 18, 14, 6, 3, 1, 2] ?_)
                show TrC _ _ _ _ [(8, _), (7, _), (30, _), (18, _), (14, _), (6, _), (3, _), (1, _), (2, _)] _ _
                refine tr_ret (post_ret3 (.inr rfl) rfl (by exact ⟨_, rfl, res_blkN H.get4 (Try.isAgg85 _) (Try.sizeOf85 _) rfl rfl⟩) rfl rfl ?_)
                (have he : setE last X id due = 0 := (by unfold setE; rw [if_neg (by omega), if_neg (by omega), if_neg (by rw [hix]; simp; omega)]); unfold setN setR; rw [if_pos he, if_pos he, setS_ok he, he]; have H2 := H.drop1.drop1.drop1.drop1.drop1; exact ⟨A4, c4, rfl, vec_len H2.get0, H2.upd0 (upd_rdr_of_vec H2.get0 lenRThing (by decide))⟩)
            · skip
              refine tw_val (ov_load_blk H.get2 rfl (Try.isAgg46 _) rfl rfl rfl) rfl ((by exact ⟨_, H.get2⟩)) rfl rfl rfl ?_
              refine th_two 0 9 (by kernel_rfl) ?_ ?_
              · skip
                refine tw_buildSlice0 H rfl rfl Try.underlying46 info59 rfl rfl rfl ?_
                intro b6 w16 hb6 H
                have H := H.upd0 (upd_vec_of_blk (L := ([] : List RThing)) (enc := encRThing) (sz := 4) H.get0 rfl lenRThing (by simp))
                refine ⟨(by exact ⟨_, H.get3⟩), ?_⟩
                refine th_two 3 9 (by kernel_rfl) ?_ ?_
                · skip
                  (refine tw_append (M := zR (dropT id X)) (L := ([] : List RThing)) H.get0 (rdr_rd H.get1) rfl rfl rfl rfl Try.underlying46 info59 rfl rfl (show Try.t59.bytes = 32 from rfl) rfl (by decide) lenRThing oneRThing (by rw [List.length_nil]; omega) (by rw [List.length_nil]; unfold maxLen; omega) rfl rfl rfl ?_; intro A2 c2 w20 U; have H := H.upd0 U; clear U; rw [List.nil_append] at H ⊢; refine ⟨(by exact ⟨_, H.get3⟩), ?_⟩)
                  refine th_one 9 (by kernel_rfl) ?_
                  refine tw_buildSlice H rfl rfl Try.underlying46 info59 rfl (fun ρ k => bs1 k rfl) (by decide) (by decide) (fill_RThing_1 _ _ _ _) rfl rfl rfl ?_
                  intro b7 w7 hb7 H
                  refine ⟨(by exact ⟨_, H.get4⟩), ?_⟩
                  refine th_one 10 (by kernel_rfl) ?_
                  (refine tw_append (M := [toR ⟨id, last + 1, due⟩ 0]) (L := zR (dropT id X)) H.get1 (rd_blk [toR ⟨id, last + 1, due⟩ 0] H.get0 rfl lenRThing) rfl rfl rfl rfl Try.underlying46 info59 rfl rfl (show Try.t59.bytes = 32 from rfl) rfl (by decide) lenRThing oneRThing (by rw [List.length_singleton]; omega) (by rw [List.length_singleton]; unfold maxLen; omega) rfl rfl rfl ?_; intro A3 c3 w30 U; have H := H.upd1 U; clear U; refine ⟨(by exact ⟨_, H.get4⟩), ?_⟩)
                  refine th_one 11 (by kernel_rfl) ?_
                  refine tw_call (SortedR_c A3 c3 (zR (dropT id X) ++ [toR ⟨id, last + 1, due⟩ 0]) _ (by exact vec_rd H.get1 lenRThing (by decide)) (by simp; omega)) rfl rfl rfl rfl Try.call105 rfl rfl rfl ?_
                  rintro _ w24 ⟨A4, c4, rfl, HC⟩
                  have H := H.call0r HC
                  refine ⟨(by exact ⟨_, H.get5⟩), ?_⟩
                  refine th_take 12 rfl (by kernel_rfl) (by kernel_rfl) (by kernel_rfl) ((by exact ⟨_, H.get5⟩)) (fun _ hS => ov_fieldAddr rfl Try.underlying85 rfl (Try.sizeOf46 _) (by decide) rfl) rfl rfl rfl ?_
                  refine th_one 13 (by kernel_rfl) ?_
                  (refine tw_store H.get5 rfl rfl (Try.sizeOf46 _) rfl rfl rfl rfl rfl rfl rfl ?_; intro w25 U; have H := H.upd5 U; clear U)
                  try simp only [List.set_cons_zero, List.set_cons_succ, Nat.zero_add] at H
                  refine ⟨(by exact ⟨_, H.get5⟩), ?_⟩
                  refine th_done (by kernel_rfl) ?_
                  refine hK14 _ _ (TrC.keep [30, 18, 14, 8, 7, 6, 3, 1, 2] ?_)
                  show TrC _ _ _ _ [(30, _), (18, _), (14, _), (8, _), (7, _), (6, _), (3, _), (1, _), (2, _)] _ _
                  refine tr_seq (fun K18 hK18 => ?_)
                  -- region 10: ref.go:65
                  refine tr_held (fun w' => (blk b1 85 [.int .i64 now, .int .u64 (last + 1), .slice A4 ((sortR (zR (dropT id X) ++ [toR ⟨id, last + 1, due⟩ 0]))).length c4]).holds w') mixed rfl H ?_
                  intro w26 H
                  refine th_take 0 rfl (by kernel_rfl) (by kernel_rfl) (by kernel_rfl) (H.get5) (fun _ hS => ov_load_blkN hS rfl (Try.isAgg85 _) (Try.sizeOf85 _) rfl rfl rfl) rfl rfl rfl ?_
                  refine th_take 1 rfl (by kernel_rfl) (by kernel_rfl) (by kernel_rfl) (H.get5) (fun _ hS => ov_fieldAddr rfl Try.underlying85 rfl (Try.sizeOf28 _) (by decide) rfl) rfl rfl rfl ?_
                  refine th_take 2 rfl (by kernel_rfl) (by kernel_rfl) (by kernel_rfl) (H.get5) (fun _ hS => ov_load_blk hS rfl (Try.isAgg28 _) rfl rfl rfl) rfl rfl rfl ?_
                  refine th_one 3 (by kernel_rfl) ?_
                  (refine tw_storeW H.get4 rfl rfl (Try.sizeOf85 _) rfl rfl rfl rfl rfl rfl rfl rfl ?_; intro w27 U; have H := H.upd4 U; clear U)
                  refine ⟨H.get5, ?_⟩
                  refine th_take 4 rfl (by kernel_rfl) (by kernel_rfl) (by kernel_rfl) (H.get5) (fun _ hS => ov_assign rfl rfl) rfl rfl rfl ?_
                  refine th_take 5 rfl (by kernel_rfl) (by kernel_rfl) (by kernel_rfl) (H.get5) (fun _ hS => ov_assign rfl rfl) rfl rfl rfl ?_
                  refine th_done (by kernel_rfl) ?_
                  refine hK18 _ _ (TrC.keep [8, 7, 30, 18, 14, 6, 3, 1, 2] ?_)
                  show TrC _ _ _ _ [(8, _), (7, _), (30, _), (18, _), (14, _), (6, _), (3, _), (1, _), (2, _)] _ _
                  refine tr_ret (post_ret3 (.inr rfl) rfl (by exact ⟨_, rfl, res_blkN H.get4 (Try.isAgg85 _) (Try.sizeOf85 _) rfl rfl⟩) rfl rfl ?_)
                  (have he : setE last X id due = 0 := (by unfold setE; rw [if_neg (by omega), if_neg (by omega), if_neg (by rw [hix]; simp; omega)]); unfold setN setR; rw [if_pos he, if_pos he, setS_ok he, he]; have H2 := H.drop1.drop1.drop1.drop1.drop1; exact ⟨A4, c4, rfl, vec_len H2.get0, H2.upd0 (upd_rdr_of_vec H2.get0 lenRThing (by decide))⟩)
                · skip
                  refine tw_buildSlice H rfl rfl Try.underlying46 info59 rfl (fun ρ k => bs1 k rfl) (by decide) (by decide) (fill_RThing_1 _ _ _ _) rfl rfl rfl ?_
                  intro b7 w7 hb7 H
                  refine ⟨(by exact ⟨_, H.get4⟩), ?_⟩
                  refine th_one 3 (by kernel_rfl) ?_
                  (refine tw_append (M := zR (dropT id X)) (L := ([] : List RThing)) H.get1 (rdr_rd H.get2) rfl rfl rfl rfl Try.underlying46 info59 rfl rfl (show Try.t59.bytes = 32 from rfl) rfl (by decide) lenRThing oneRThing (by rw [List.length_nil]; omega) (by rw [List.length_nil]; unfold maxLen; omega) rfl rfl rfl ?_; intro A2 c2 w20 U; have H := H.upd1 U; clear U; rw [List.nil_append] at H ⊢; refine ⟨(by exact ⟨_, H.get4⟩), ?_⟩)
                  refine th_one 10 (by kernel_rfl) ?_
                  (refine tw_append (M := [toR ⟨id, last + 1, due⟩ 0]) (L := zR (dropT id X)) H.get1 (rd_blk [toR ⟨id, last + 1, due⟩ 0] H.get0 rfl lenRThing) rfl rfl rfl rfl Try.underlying46 info59 rfl rfl (show Try.t59.bytes = 32 from rfl) rfl (by decide) lenRThing oneRThing (by rw [List.length_singleton]; omega) (by rw [List.length_singleton]; unfold maxLen; omega) rfl rfl rfl ?_; intro A3 c3 w30 U; have H := H.upd1 U; clear U; refine ⟨(by exact ⟨_, H.get4⟩), ?_⟩)
                  refine th_one 11 (by kernel_rfl) ?_
                  refine tw_call (SortedR_c A3 c3 (zR (dropT id X) ++ [toR ⟨id, last + 1, due⟩ 0]) _ (by exact vec_rd H.get1 lenRThing (by decide)) (by simp; omega)) rfl rfl rfl rfl Try.call105 rfl rfl rfl ?_
                  rintro _ w28 ⟨A4, c4, rfl, HC⟩
                  have H := H.call0r HC
                  refine ⟨(by exact ⟨_, H.get5⟩), ?_⟩
                  refine th_take 12 rfl (by kernel_rfl) (by kernel_rfl) (by kernel_rfl) ((by exact ⟨_, H.get5⟩)) (fun _ hS => ov_fieldAddr rfl Try.underlying85 rfl (Try.sizeOf46 _) (by decide) rfl) rfl rfl rfl ?_
                  refine th_one 13 (by kernel_rfl) ?_
                  (refine tw_store H.get5 rfl rfl (Try.sizeOf46 _) rfl rfl rfl rfl rfl rfl rfl ?_; intro w29 U; have H := H.upd5 U; clear U)
                  try simp only [List.set_cons_zero, List.set_cons_succ, Nat.zero_add] at H
                  refine ⟨(by exact ⟨_, H.get5⟩), ?_⟩
                  refine th_done (by kernel_rfl) ?_
                  refine hK14 _ _ (TrC.keep [30, 18, 14, 8, 7, 6, 3, 1, 2] ?_)
                  show TrC _ _ _ _ [(30, _), (18, _), (14, _), (8, _), (7, _), (6, _), (3, _), (1, _), (2, _)] _ _
                  refine tr_seq (fun K19 hK19 => ?_)
                  -- region 10: ref.go:65
                  refine tr_held (fun w' => (blk b1 85 [.int .i64 now, .int .u64 (last + 1), .slice A4 ((sortR (zR (dropT id X) ++ [toR ⟨id, last + 1, due⟩ 0]))).length c4]).holds w') mixed rfl H ?_
                  intro w30 H
                  refine th_take 0 rfl (by kernel_rfl) (by kernel_rfl) (by kernel_rfl) (H.get5) (fun _ hS => ov_load_blkN hS rfl (Try.isAgg85 _) (Try.sizeOf85 _) rfl rfl rfl) rfl rfl rfl ?_
                  refine th_take 1 rfl (by kernel_rfl) (by kernel_rfl) (by kernel_rfl) (H.get5) (fun _ hS => ov_fieldAddr rfl Try.underlying85 rfl (Try.sizeOf28 _) (by decide) rfl) rfl rfl rfl ?_
                  refine th_take 2 rfl (by kernel_rfl) (by kernel_rfl) (by kernel_rfl) (H.get5) (fun _ hS => ov_load_blk hS rfl (Try.isAgg28 _) rfl rfl rfl) rfl rfl rfl ?_
                  refine th_one 3 (by kernel_rfl) ?_
                  (refine tw_storeW H.get4 rfl rfl (Try.sizeOf85 _) rfl rfl rfl rfl rfl rfl rfl rfl ?_; intro w31 U; have H := H.upd4 U; clear U)
                  refine ⟨H.get5, ?_⟩
                  refine th_take 4 rfl (by kernel_rfl) (by kernel_rfl) (by kernel_rfl) (H.get5) (fun _ hS => ov_assign rfl rfl) rfl rfl rfl ?_
                  refine th_take 5 rfl (by kernel_rfl) (by kernel_rfl) (by kernel_rfl) (H.get5) (fun _ hS => ov_assign rfl rfl) rfl rfl rfl ?_
                  refine th_done (by kernel_rfl) ?_
                  refine hK19 _ _ (TrC.keep [8, 7, 30, 18, 14, 6, 3, 1, 2] ?_)
                  show TrC _ _ _ _ [(8, _), (7, _), (30, _), (18, _), (14, _), (6, _), (3, _), (1, _), (2, _)] _ _
                  refine tr_ret (post_ret3 (.inr rfl) rfl (by exact ⟨_, rfl, res_blkN H.get4 (Try.isAgg85 _) (Try.sizeOf85 _) rfl rfl⟩) rfl rfl ?_)
                  (have he : setE last X id due = 0 := (by unfold setE; rw [if_neg (by omega), if_neg (by omega), if_neg (by rw [hix]; simp; omega)]); unfold setN setR; rw [if_pos he, if_pos he, setS_ok he, he]; have H2 := H.drop1.drop1.drop1.drop1.drop1; exact ⟨A4, c4, rfl, vec_len H2.get0, H2.upd0 (upd_rdr_of_vec H2.get0 lenRThing (by decide))⟩)
              · skip
                refine tw_buildSlice H rfl rfl Try.underlying46 info59 rfl (fun ρ k => bs1 k rfl) (by decide) (by decide) (fill_RThing_1 _ _ _ _) rfl rfl rfl ?_
                intro b7 w7 hb7 H
                refine ⟨(by exact ⟨_, H.get3⟩), ?_⟩
                refine th_one 0 (by kernel_rfl) ?_
                refine tw_buildSlice0 H rfl rfl Try.underlying46 info59 rfl rfl rfl ?_
                intro b6 w16 hb6 H
                have H := H.upd0 (upd_vec_of_blk (L := ([] : List RThing)) (enc := encRThing) (sz := 4) H.get0 rfl lenRThing (by simp))
                refine ⟨(by exact ⟨_, H.get4⟩), ?_⟩
                refine th_one 3 (by kernel_rfl) ?_
                (refine tw_append (M := zR (dropT id X)) (L := ([] : List RThing)) H.get0 (rdr_rd H.get2) rfl rfl rfl rfl Try.underlying46 info59 rfl rfl (show Try.t59.bytes = 32 from rfl) rfl (by decide) lenRThing oneRThing (by rw [List.length_nil]; omega) (by rw [List.length_nil]; unfold maxLen; omega) rfl rfl rfl ?_; intro A2 c2 w20 U; have H := H.upd0 U; clear U; rw [List.nil_append] at H ⊢; refine ⟨(by exact ⟨_, H.get4⟩), ?_⟩)
                refine th_one 10 (by kernel_rfl) ?_
                (refine tw_append (M := [toR ⟨id, last + 1, due⟩ 0]) (L := zR (dropT id X)) H.get0 (rd_blk [toR ⟨id, last + 1, due⟩ 0] H.get1 rfl lenRThing) rfl rfl rfl rfl Try.underlying46 info59 rfl rfl (show Try.t59.bytes = 32 from rfl) rfl (by decide) lenRThing oneRThing (by rw [List.length_singleton]; omega) (by rw [List.length_singleton]; unfold maxLen; omega) rfl rfl rfl ?_; intro A3 c3 w30 U; have H := H.upd0 U; clear U; refine ⟨(by exact ⟨_, H.get4⟩), ?_⟩)
                refine th_one 11 (by kernel_rfl) ?_
                refine tw_call (SortedR_c A3 c3 (zR (dropT id X) ++ [toR ⟨id, last + 1, due⟩ 0]) _ (by exact vec_rd H.get0 lenRThing (by decide)) (by simp; omega)) rfl rfl rfl rfl Try.call105 rfl rfl rfl ?_
                rintro _ w32 ⟨A4, c4, rfl, HC⟩
                have H := H.call0r HC
                refine ⟨(by exact ⟨_, H.get5⟩), ?_⟩
                refine th_take 12 rfl (by kernel_rfl) (by kernel_rfl) (by kernel_rfl) ((by exact ⟨_, H.get5⟩)) (fun _ hS => ov_fieldAddr rfl Try.underlying85 rfl (Try.sizeOf46 _) (by decide) rfl) rfl rfl rfl ?_
                refine th_one 13 (by kernel_rfl) ?_
                (refine tw_store H.get5 rfl rfl (Try.sizeOf46 _) rfl rfl rfl rfl rfl rfl rfl ?_; intro w33 U; have H := H.upd5 U; clear U)
                try simp only [List.set_cons_zero, List.set_cons_succ, Nat.zero_add] at H
                refine ⟨(by exact ⟨_, H.get5⟩), ?_⟩
                refine th_done (by kernel_rfl) ?_
                refine hK14 _ _ (TrC.keep [30, 18, 14, 8, 7, 6, 3, 1, 2] ?_)
                show TrC _ _ _ _ [(30, _), (18, _), (14, _), (8, _), (7, _), (6, _), (3, _), (1, _), (2, _)] _ _
                refine tr_seq (fun K20 hK20 => ?_)
                -- region 10: ref.go:65
                refine tr_held (fun w' => (blk b1 85 [.int .i64 now, .int .u64 (last + 1), .slice A4 ((sortR (zR (dropT id X) ++ [toR ⟨id, last + 1, due⟩ 0]))).length c4]).holds w') mixed rfl H ?_
                intro w34 H
                refine th_take 0 rfl (by kernel_rfl) (by kernel_rfl) (by kernel_rfl) (H.get5) (fun _ hS => ov_load_blkN hS rfl (Try.isAgg85 _) (Try.sizeOf85 _) rfl rfl rfl) rfl rfl rfl ?_
                refine th_take 1 rfl (by kernel_rfl) (by kernel_rfl) (by kernel_rfl) (H.get5) (fun _ hS => ov_fieldAddr rfl Try.underlying85 rfl (Try.sizeOf28 _) (by decide) rfl) rfl rfl rfl ?_
                refine th_take 2 rfl (by kernel_rfl) (by kernel_rfl) (by kernel_rfl) (H.get5) (fun _ hS => ov_load_blk hS rfl (Try.isAgg28 _) rfl rfl rfl) rfl rfl rfl ?_
                refine th_one 3 (by kernel_rfl) ?_
                (refine tw_storeW H.get4 rfl rfl (Try.sizeOf85 _) rfl rfl rfl rfl rfl rfl rfl rfl ?_; intro w35 U; have H := H.upd4 U; clear U)
                refine ⟨H.get5, ?_⟩
                refine th_take 4 rfl (by kernel_rfl) (by kernel_rfl) (by kernel_rfl) (H.get5) (fun _ hS => ov_assign rfl rfl) rfl rfl rfl ?_
                refine th_take 5 rfl (by kernel_rfl) (by kernel_rfl) (by kernel_rfl) (H.get5) (fun _ hS => ov_assign rfl rfl) rfl rfl rfl ?_
                refine th_done (by kernel_rfl) ?_
                refine hK20 _ _ (TrC.keep [8, 7, 30, 18, 14, 6, 3, 1, 2] ?_)
                show TrC _ _ _ _ [(8, _), (7, _), (30, _), (18, _), (14, _), (6, _), (3, _), (1, _), (2, _)] _ _
                refine tr_ret (post_ret3 (.inr rfl) rfl (by exact ⟨_, rfl, res_blkN H.get4 (Try.isAgg85 _) (Try.sizeOf85 _) rfl rfl⟩) rfl rfl ?_)
                (have he : setE last X id due = 0 := (by unfold setE; rw [if_neg (by omega), if_neg (by omega), if_neg (by rw [hix]; simp; omega)]); unfold setN setR; rw [if_pos he, if_pos he, setS_ok he, he]; have H2 := H.drop1.drop1.drop1.drop1.drop1; exact ⟨A4, c4, rfl, vec_len H2.get0, H2.upd0 (upd_rdr_of_vec H2.get0 lenRThing (by decide))⟩)
            · skip
              refine tw_buildSlice H rfl rfl Try.underlying46 info59 rfl (fun ρ k => bs1 k rfl) (by decide) (by decide) (fill_RThing_1 _ _ _ _) rfl rfl rfl ?_
              intro b7 w7 hb7 H
              refine ⟨(by exact ⟨_, H.get3⟩), ?_⟩
              refine th_two 0 2 (by kernel_rfl) ?_ ?_
              · skip
                refine tw_buildSlice0 H rfl rfl Try.underlying46 info59 rfl rfl rfl ?_
                intro b6 w16 hb6 H
                have H := H.upd0 (upd_vec_of_blk (L := ([] : List RThing)) (enc := encRThing) (sz := 4) H.get0 rfl lenRThing (by simp))
                refine ⟨(by exact ⟨_, H.get4⟩), ?_⟩
                refine th_one 2 (by kernel_rfl) ?_
                refine tw_val (ov_load_blk H.get4 rfl (Try.isAgg46 _) rfl rfl rfl) rfl ((by exact ⟨_, H.get4⟩)) rfl rfl rfl ?_
                refine th_one 3 (by kernel_rfl) ?_
                (refine tw_append (M := zR (dropT id X)) (L := ([] : List RThing)) H.get0 (rdr_rd H.get2) rfl rfl rfl rfl Try.underlying46 info59 rfl rfl (show Try.t59.bytes = 32 from rfl) rfl (by decide) lenRThing oneRThing (by rw [List.length_nil]; omega) (by rw [List.length_nil]; unfold maxLen; omega) rfl rfl rfl ?_; intro A2 c2 w20 U; have H := H.upd0 U; clear U; rw [List.nil_append] at H ⊢; refine ⟨(by exact ⟨_, H.get4⟩), ?_⟩)
                refine th_one 10 (by kernel_rfl) ?_
                (refine tw_append (M := [toR ⟨id, last + 1, due⟩ 0]) (L := zR (dropT id X)) H.get0 (rd_blk [toR ⟨id, last + 1, due⟩ 0] H.get1 rfl lenRThing) rfl rfl rfl rfl Try.underlying46 info59 rfl rfl (show Try.t59.bytes = 32 from rfl) rfl (by decide) lenRThing oneRThing (by rw [List.length_singleton]; omega) (by rw [List.length_singleton]; unfold maxLen; omega) rfl rfl rfl ?_; intro A3 c3 w30 U; have H := H.upd0 U; clear U; refine ⟨(by exact ⟨_, H.get4⟩), ?_⟩)
                refine th_one 11 (by kernel_rfl) ?_
                refine tw_call (SortedR_c A3 c3 (zR (dropT id X) ++ [toR ⟨id, last + 1, due⟩ 0]) _ (by exact vec_rd H.get0 lenRThing (by decide)) (by simp; omega)) rfl rfl rfl rfl Try.call105 rfl rfl rfl ?_
                rintro _ w36 ⟨A4, c4, rfl, HC⟩
                have H := H.call0r HC
                refine ⟨(by exact ⟨_, H.get5⟩), ?_⟩
                refine th_take 12 rfl (by kernel_rfl) (by kernel_rfl) (by kernel_rfl) ((by exact ⟨_, H.get5⟩)) (fun _ hS => ov_fieldAddr rfl Try.underlying85 rfl (Try.sizeOf46 _) (by decide) rfl) rfl rfl rfl ?_
                refine th_one 13 (by kernel_rfl) ?_
                (refine tw_store H.get5 rfl rfl (Try.sizeOf46 _) rfl rfl rfl rfl rfl rfl rfl ?_; intro w37 U; have H := H.upd5 U; clear U)
                try simp only [List.set_cons_zero, List.set_cons_succ, Nat.zero_add] at H
                refine ⟨(by exact ⟨_, H.get5⟩), ?_⟩
                refine th_done (by kernel_rfl) ?_
                refine hK14 _ _ (TrC.keep [30, 18, 14, 8, 7, 6, 3, 1, 2] ?_)
                show TrC _ _ _ _ [(30, _), (18, _), (14, _), (8, _), (7, _), (6, _), (3, _), (1, _), (2, _)] _ _
                refine tr_seq (fun K21 hK21 => ?_)
                -- region 10: ref.go:65
                refine tr_held (fun w' => (blk b1 85 [.int .i64 now, .int .u64 (last + 1), .slice A4 ((sortR (zR (dropT id X) ++ [toR ⟨id, last + 1, due⟩ 0]))).length c4]).holds w') mixed rfl H ?_
                intro w38 H
                refine th_take 0 rfl (by kernel_rfl) (by kernel_rfl) (by kernel_rfl) (H.get5) (fun _ hS => ov_load_blkN hS rfl (Try.isAgg85 _) (Try.sizeOf85 _) rfl rfl rfl) rfl rfl rfl ?_
                refine th_take 1 rfl (by kernel_rfl) (by kernel_rfl) (by kernel_rfl) (H.get5) (fun _ hS => ov_fieldAddr rfl Try.underlying85 rfl (Try.sizeOf28 _) (by decide) rfl) rfl rfl rfl ?_
                refine th_take 2 rfl (by kernel_rfl) (by kernel_rfl) (by kernel_rfl) (H.get5) (fun _ hS => ov_load_blk hS rfl (Try.isAgg28 _) rfl rfl rfl) rfl rfl rfl ?_
                refine th_one 3 (by kernel_rfl) ?_
                (refine tw_storeW H.get4 rfl rfl (Try.sizeOf85 _) rfl rfl rfl rfl rfl rfl rfl rfl ?_; intro w39 U; have H := H.upd4 U; clear U)
                refine ⟨H.get5, ?_⟩
                refine th_take 4 rfl (by kernel_rfl) (by kernel_rfl) (by kernel_rfl) (H.get5) (fun _ hS => ov_assign rfl rfl) rfl rfl rfl ?_
                refine th_take 5 rfl (by kernel_rfl) (by kernel_rfl) (by kernel_rfl) (H.get5) (fun _ hS => ov_assign rfl rfl) rfl rfl rfl ?_
                refine th_done (by kernel_rfl) ?_
                refine hK21 _ _ (TrC.keep [8, 7, 30, 18, 14, 6, 3, 1, 2] ?_)
                show TrC _ _ _ _ [(8, _), (7, _), (30, _), (18, _), (14, _), (6, _), (3, _), (1, _), (2, _)] _ _
                refine tr_ret (post_ret3 (.inr rfl) rfl (by exact ⟨_, rfl, res_blkN H.get4 (Try.isAgg85 _) (Try.sizeOf85 _) rfl rfl⟩) rfl rfl ?_)
                (have he : setE last X id due = 0 := (by unfold setE; rw [if_neg (by omega), if_neg (by omega), if_neg (by rw [hix]; simp; omega)]); unfold setN setR; rw [if_pos he, if_pos he, setS_ok he, he]; have H2 := H.drop1.drop1.drop1.drop1.drop1; exact ⟨A4, c4, rfl, vec_len H2.get0, H2.upd0 (upd_rdr_of_vec H2.get0 lenRThing (by decide))⟩)
              · skip
                refine tw_val (ov_load_blk H.get3 rfl (Try.isAgg46 _) rfl rfl rfl) rfl ((by exact ⟨_, H.get3⟩)) rfl rfl rfl ?_
                refine th_one 0 (by kernel_rfl) ?_
                refine tw_buildSlice0 H rfl rfl Try.underlying46 info59 rfl rfl rfl ?_
                intro b6 w16 hb6 H
                have H := H.upd0 (upd_vec_of_blk (L := ([] : List RThing)) (enc := encRThing) (sz := 4) H.get0 rfl lenRThing (by simp))
                refine ⟨(by exact ⟨_, H.get4⟩), ?_⟩
                refine th_one 3 (by kernel_rfl) ?_
                (refine tw_append (M := zR (dropT id X)) (L := ([] : List RThing)) H.get0 (rdr_rd H.get2) rfl rfl rfl rfl Try.underlying46 info59 rfl rfl (show Try.t59.bytes = 32 from rfl) rfl (by decide) lenRThing oneRThing (by rw [List.length_nil]; omega) (by rw [List.length_nil]; unfold maxLen; omega) rfl rfl rfl ?_; intro A2 c2 w20 U; have H := H.upd0 U; clear U; rw [List.nil_append] at H ⊢; refine ⟨(by exact ⟨_, H.get4⟩), ?_⟩)
                refine th_one 10 (by kernel_rfl) ?_
                (refine tw_append (M := [toR ⟨id, last + 1, due⟩ 0]) (L := zR (dropT id X)) H.get0 (rd_blk [toR ⟨id, last + 1, due⟩ 0] H.get1 rfl lenRThing) rfl rfl rfl rfl Try.underlying46 info59 rfl rfl (show Try.t59.bytes = 32 from rfl) rfl (by decide) lenRThing oneRThing (by rw [List.length_singleton]; omega) (by rw [List.length_singleton]; unfold maxLen; omega) rfl rfl rfl ?_; intro A3 c3 w30 U; have H := H.upd0 U; clear U; refine ⟨(by exact ⟨_, H.get4⟩), ?_⟩)
                refine th_one 11 (by kernel_rfl) ?_
                refine tw_call (SortedR_c A3 c3 (zR (dropT id X) ++ [toR ⟨id, last + 1, due⟩ 0]) _ (by exact vec_rd H.get0 lenRThing (by decide)) (by simp; omega)) rfl rfl rfl rfl Try.call105 rfl rfl rfl ?_
                rintro _ w40 ⟨A4, c4, rfl, HC⟩
                have H := H.call0r HC
                refine ⟨(by exact ⟨_, H.get5⟩), ?_⟩
                refine th_take 12 rfl (by kernel_rfl) (by kernel_rfl) (by kernel_rfl) ((by exact ⟨_, H.get5⟩)) (fun _ hS => ov_fieldAddr rfl Try.underlying85 rfl (Try.sizeOf46 _) (by decide) rfl) rfl rfl rfl ?_
                refine th_one 13 (by kernel_rfl) ?_
                (refine tw_store H.get5 rfl rfl (Try.sizeOf46 _) rfl rfl rfl rfl rfl rfl rfl ?_; intro w41 U; have H := H.upd5 U; clear U)
                try simp only [List.set_cons_zero, List.set_cons_succ, Nat.zero_add] at H
                refine ⟨(by exact ⟨_, H.get5⟩), ?_⟩
                refine th_done (by kernel_rfl) ?_
                refine hK14 _ _ (TrC.keep [30, 18, 14, 8, 7, 6, 3, 1, 2] ?_)
                show TrC _ _ _ _ [(30, _), (18, _), (14, _), (8, _), (7, _), (6, _), (3, _), (1, _), (2, _)] _ _
                refine tr_seq (fun K22 hK22 => ?_)
                -- region 10: ref.go:65
                refine tr_held (fun w' => (blk b1 85 [.int .i64 now, .int .u64 (last + 1), .slice A4 ((sortR (zR (dropT id X) ++ [toR ⟨id, last + 1, due⟩ 0]))).length c4]).holds w') mixed rfl H ?_
                intro w42 H
                refine th_take 0 rfl (by kernel_rfl) (by kernel_rfl) (by kernel_rfl) (H.get5) (fun _ hS => ov_load_blkN hS rfl (Try.isAgg85 _) (Try.sizeOf85 _) rfl rfl rfl) rfl rfl rfl ?_
                refine th_take 1 rfl (by kernel_rfl) (by kernel_rfl) (by kernel_rfl) (H.get5) (fun _ hS => ov_fieldAddr rfl Try.underlying85 rfl (Try.sizeOf28 _) (by decide) rfl) rfl rfl rfl ?_
                refine th_take 2 rfl (by kernel_rfl) (by kernel_rfl) (by kernel_rfl) (H.get5) (fun _ hS => ov_load_blk hS rfl (Try.isAgg28 _) rfl rfl rfl) rfl rfl rfl ?_
                refine th_one 3 (by kernel_rfl) ?_
                (refine tw_storeW H.get4 rfl rfl (Try.sizeOf85 _) rfl rfl rfl rfl rfl rfl rfl rfl ?_; intro w43 U; have H := H.upd4 U; clear U)
                refine ⟨H.get5, ?_⟩
                refine th_take 4 rfl (by kernel_rfl) (by kernel_rfl) (by kernel_rfl) (H.get5) (fun _ hS => ov_assign rfl rfl) rfl rfl rfl ?_
                refine th_take 5 rfl (by kernel_rfl) (by kernel_rfl) (by kernel_rfl) (H.get5) (fun _ hS => ov_assign rfl rfl) rfl rfl rfl ?_
                refine th_done (by kernel_rfl) ?_
                refine hK22 _ _ (TrC.keep [8, 7, 30, 18, 14, 6, 3, 1, 2] ?_)
                show TrC _ _ _ _ [(8, _), (7, _), (30, _), (18, _), (14, _), (6, _), (3, _), (1, _), (2, _)] _ _
                refine tr_ret (post_ret3 (.inr rfl) rfl (by exact ⟨_, rfl, res_blkN H.get4 (Try.isAgg85 _) (Try.sizeOf85 _) rfl rfl⟩) rfl rfl ?_)
                (have he : setE last X id due = 0 := (by unfold setE; rw [if_neg (by omega), if_neg (by omega), if_neg (by rw [hix]; simp; omega)]); unfold setN setR; rw [if_pos he, if_pos he, setS_ok he, he]; have H2 := H.drop1.drop1.drop1.drop1.drop1; exact ⟨A4, c4, rfl, vec_len H2.get0, H2.upd0 (upd_rdr_of_vec H2.get0 lenRThing (by decide))⟩)
        · skip
          refine tr_pass rfl rfl rfl ?_
          refine tr_pass rfl rfl rfl ?_
          refine tr_pass rfl rfl rfl ?_
          refine tr_pass rfl rfl rfl ?_
          refine tr_pass rfl rfl rfl ?_
          refine tr_val (ov_pick_f (va := undef) rfl rfl rfl rfl) rfl rfl rfl ?_
          refine tr_nil (hK10 _ _ (TrC.keep [30, 18, 14, 8, 7, 6, 3, 1, 2] ?_))
          show TrC _ _ _ _ [(30, _), (18, _), (14, _), (8, _), (7, _), (6, _), (3, _), (1, _), (2, _)] _ _
          refine tr_cond_f rfl rfl ?_
          refine tr_skip (hK9 _ _ (TrC.keep [30, 18, 14, 8, 7, 6, 3, 1, 2] ?_))
          show TrC _ _ _ _ [(30, _), (18, _), (14, _), (8, _), (7, _), (6, _), (3, _), (1, _), (2, _)] _ _
          refine tr_seq (fun K23 hK23 => ?_)
          -- region 7: ref.go:62
          refine tr_region ?_
          refine tr_val (ov_load_blkN H.get1 rfl (Try.isAgg85 _) (Try.sizeOf85 _) rfl rfl rfl) rfl rfl rfl ?_
          refine tr_val (ov_move rfl rfl) rfl rfl rfl ?_
          refine tr_call (ClearR_c B c (zR X) now last _ (by omega) hc H.get2 id) rfl rfl rfl Try.call74 rfl rfl rfl ?_
          rintro _ w44 ⟨A1, c1, rfl, hc1, HC⟩
          have H := H.top2.call1 HC
          rw [dropR_z] at H hc1 ⊢
          refine tr_val (ov_move rfl rfl) rfl rfl rfl ?_
          refine tr_val (ov_extract rfl rfl rfl) rfl rfl rfl ?_
          refine tr_val (ov_extract rfl rfl rfl) rfl rfl rfl ?_
          refine tr_val (ov_extract rfl rfl rfl) rfl rfl rfl ?_
          (refine tr_storeW H.get2 rfl (Try.sizeOf85 _) rfl rfl rfl rfl rfl rfl rfl rfl ?_; intro w45 U; have H := H.upd2 U; clear U)
          refine tr_nil (hK23 _ _ (TrC.keep [30, 18, 14, 8, 7, 6, 3, 1, 2] ?_))
          show TrC _ _ _ _ [(30, _), (18, _), (14, _), (8, _), (7, _), (6, _), (3, _), (1, _), (2, _)] _ _
          refine tr_seq (fun K24 hK24 => ?_)
          -- region 8: ref.go:63
          refine tr_region ?_
          refine tr_val (ov_fieldAddr rfl Try.underlying85 rfl (Try.sizeOf28 _) (by decide) rfl) rfl rfl rfl ?_
          refine tr_val (ov_load_blk H.get2 rfl (Try.isAgg28 _) rfl rfl rfl) rfl rfl rfl ?_
          refine tr_val (ov_add rfl rfl rfl (wu64 (by omega))) rfl rfl rfl ?_
          refine tr_val (ov_fieldAddr rfl Try.underlying85 rfl (Try.sizeOf28 _) (by decide) rfl) rfl rfl rfl ?_
          (refine tr_store H.get2 rfl (Try.sizeOf28 _) rfl rfl rfl rfl rfl rfl rfl ?_; intro w46 U; have H := H.upd2 U; clear U)
          try simp only [List.set_cons_zero, List.set_cons_succ, Nat.zero_add] at H
          refine tr_nil (hK24 _ _ (TrC.keep [30, 18, 14, 8, 7, 6, 3, 1, 2] ?_))
          show TrC _ _ _ _ [(30, _), (18, _), (14, _), (8, _), (7, _), (6, _), (3, _), (1, _), (2, _)] _ _
          refine tr_seq (fun K25 hK25 => ?_)
          -- region 9: ref.go:64
          refine tr_held (fun w' => ∃ x, (blk b1 85 [.int .i64 now, .int .u64 (last + 1), x]).holds w') mixed rfl H ?_
          intro w47 H
          refine th_take 1 rfl (by kernel_rfl) (by kernel_rfl) (by kernel_rfl) ((by exact ⟨_, H.get2⟩)) (fun _ hS => ov_fieldAddr rfl Try.underlying85 rfl (Try.sizeOf46 _) (by decide) rfl) rfl rfl rfl ?_
          refine th_take 4 rfl (by kernel_rfl) (by kernel_rfl) (by kernel_rfl) ((by exact ⟨_, H.get2⟩)) (fun _ hS => ov_move rfl rfl) rfl rfl rfl ?_
          refine th_take 5 rfl (by kernel_rfl) (by kernel_rfl) (by kernel_rfl) ((by exact ⟨_, H.get2⟩)) (fun _ hS => ov_fieldAddr rfl Try.underlying85 rfl (Try.sizeOf28 _) (by decide) rfl) rfl rfl rfl ?_
          refine th_take 6 rfl (by kernel_rfl) (by kernel_rfl) (by kernel_rfl) ((by exact ⟨_, H.get2⟩)) (fun _ hS => (hS.elim fun _ hx => ov_load_blk hx rfl (Try.isAgg28 _) rfl rfl rfl)) rfl rfl rfl ?_
          refine th_take 7 rfl (by kernel_rfl) (by kernel_rfl) (by kernel_rfl) ((by exact ⟨_, H.get2⟩)) (fun _ hS => ov_move rfl rfl) rfl rfl rfl ?_
          refine th_take 8 rfl (by kernel_rfl) (by kernel_rfl) (by kernel_rfl) ((by exact ⟨_, H.get2⟩)) (fun _ hS => ov_build rfl (fun ρ k => bs3 k rfl rfl rfl) (bld59_0_1_2 _ _ _ _)) rfl rfl rfl ?_
          refine th_three 0 2 9 (by kernel_rfl) ?_ ?_ ?_
          · skip
            refine tw_buildSlice0 H rfl rfl Try.underlying46 info59 rfl rfl rfl ?_
            intro b6 w16 hb6 H
            have H := H.upd0 (upd_vec_of_blk (L := ([] : List RThing)) (enc := encRThing) (sz := 4) H.get0 rfl lenRThing (by simp))
            refine ⟨(by exact ⟨_, H.get3⟩), ?_⟩
            refine th_two 2 9 (by kernel_rfl) ?_ ?_
            · skip
              refine tw_val (ov_load_blk H.get3 rfl (Try.isAgg46 _) rfl rfl rfl) rfl ((by exact ⟨_, H.get3⟩)) rfl rfl rfl ?_
              refine th_two 3 9 (by kernel_rfl) ?_ ?_
              · skip
                (refine tw_append (M := zR (dropT id X)) (L := ([] : List RThing)) H.get0 (rdr_rd H.get1) rfl rfl rfl rfl Try.underlying46 info59 rfl rfl (show Try.t59.bytes = 32 from rfl) rfl (by decide) lenRThing oneRThing (by rw [List.length_nil]; omega) (by rw [List.length_nil]; unfold maxLen; omega) rfl rfl rfl ?_; intro A2 c2 w20 U; have H := H.upd0 U; clear U; rw [List.nil_append] at H ⊢; refine ⟨(by exact ⟨_, H.get3⟩), ?_⟩)
                refine th_one 9 (by kernel_rfl) ?_
                refine tw_buildSlice H rfl rfl Try.underlying46 info59 rfl (fun ρ k => bs1 k rfl) (by decide) (by decide) (fill_RThing_1 _ _ _ _) rfl rfl rfl ?_
                intro b7 w7 hb7 H
                refine ⟨(by exact ⟨_, H.get4⟩), ?_⟩
                refine th_one 10 (by kernel_rfl) ?_
                (refine tw_append (M := [toR ⟨id, last + 1, due⟩ 0]) (L := zR (dropT id X)) H.get1 (rd_blk [toR ⟨id, last + 1, due⟩ 0] H.get0 rfl lenRThing) rfl rfl rfl rfl Try.underlying46 info59 rfl rfl (show Try.t59.bytes = 32 from rfl) rfl (by decide) lenRThing oneRThing (by rw [List.length_singleton]; omega) (by rw [List.length_singleton]; unfold maxLen; omega) rfl rfl rfl ?_; intro A3 c3 w30 U; have H := H.upd1 U; clear U; refine ⟨(by exact ⟨_, H.get4⟩), ?_⟩)
                refine th_one 11 (by kernel_rfl) ?_
                refine tw_call (SortedR_c A3 c3 (zR (dropT id X) ++ [toR ⟨id, last + 1, due⟩ 0]) _ (by exact vec_rd H.get1 lenRThing (by decide)) (by simp; omega)) rfl rfl rfl rfl Try.call105 rfl rfl rfl ?_
                rintro _ w48 ⟨A4, c4, rfl, HC⟩
                have H := H.call0r HC
                refine ⟨(by exact ⟨_, H.get5⟩), ?_⟩
                refine th_take 12 rfl (by kernel_rfl) (by kernel_rfl) (by kernel_rfl) ((by exact ⟨_, H.get5⟩)) (fun _ hS => ov_fieldAddr rfl Try.underlying85 rfl (Try.sizeOf46 _) (by decide) rfl) rfl rfl rfl ?_
                refine th_one 13 (by kernel_rfl) ?_
                (refine tw_store H.get5 rfl rfl (Try.sizeOf46 _) rfl rfl rfl rfl rfl rfl rfl ?_; intro w49 U; have H := H.upd5 U; clear U)
                try simp only [List.set_cons_zero, List.set_cons_succ, Nat.zero_add] at H
                refine ⟨(by exact ⟨_, H.get5⟩), ?_⟩
                refine th_done (by kernel_rfl) ?_
                refine hK25 _ _ (TrC.keep [30, 18, 14, 8, 7, 6, 3, 1, 2] ?_)
                show TrC _ _ _ _ [(30, _), (18, _), (14, _), (8, _), (7, _), (6, _), (3, _), (1, _), (2, _)] _ _
                refine tr_seq (fun K26 hK26 => ?_)
                -- region 10: ref.go:65
                refine tr_held (fun w' => (blk b1 85 [.int .i64 now, .int .u64 (last + 1), .slice A4 ((sortR (zR (dropT id X) ++ [toR ⟨id, last + 1, due⟩ 0]))).length c4]).holds w') mixed rfl H ?_
                intro w50 H
                refine th_take 0 rfl (by kernel_rfl) (by kernel_rfl) (by kernel_rfl) (H.get5) (fun _ hS => ov_load_blkN hS rfl (Try.isAgg85 _) (Try.sizeOf85 _) rfl rfl rfl) rfl rfl rfl ?_
                refine th_take 1 rfl (by kernel_rfl) (by kernel_rfl) (by kernel_rfl) (H.get5) (fun _ hS => ov_fieldAddr rfl Try.underlying85 rfl (Try.sizeOf28 _) (by decide) rfl) rfl rfl rfl ?_
                refine th_take 2 rfl (by kernel_rfl) (by kernel_rfl) (by kernel_rfl) (H.get5) (fun _ hS => ov_load_blk hS rfl (Try.isAgg28 _) rfl rfl rfl) rfl rfl rfl ?_
                refine th_one 3 (by kernel_rfl) ?_
                (refine tw_storeW H.get4 rfl rfl (Try.sizeOf85 _) rfl rfl rfl rfl rfl rfl rfl rfl ?_; intro w51 U; have H := H.upd4 U; clear U)
                refine ⟨H.get5, ?_⟩
                refine th_take 4 rfl (by kernel_rfl) (by kernel_rfl) (by kernel_rfl) (H.get5) (fun _ hS => ov_assign rfl rfl) rfl rfl rfl ?_
                refine th_take 5 rfl (by kernel_rfl) (by kernel_rfl) (by kernel_rfl) (H.get5) (fun _ hS => ov_assign rfl rfl) rfl rfl rfl ?_
                refine th_done (by kernel_rfl) ?_
                refine hK26 _ _ (TrC.keep [8, 7, 30, 18, 14, 6, 3, 1, 2] ?_)
                show TrC _ _ _ _ [(8, _), (7, _), (30, _), (18, _), (14, _), (6, _), (3, _), (1, _), (2, _)] _ _
                refine tr_ret (post_ret3 (.inr rfl) rfl (by exact ⟨_, rfl, res_blkN H.get4 (Try.isAgg85 _) (Try.sizeOf85 _) rfl rfl⟩) rfl rfl ?_)
                (have he : setE last X id due = 0 := (by unfold setE; rw [if_neg (by omega), if_neg (by omega), if_neg (by rw [hix]; simp; omega)]); unfold setN setR; rw [if_pos he, if_pos he, setS_ok he, he]; have H2 := H.drop1.drop1.drop1.drop1.drop1; exact ⟨A4, c4, rfl, vec_len H2.get0, H2.upd0 (upd_rdr_of_vec H2.get0 lenRThing (by decide))⟩)
              · skip
                refine tw_buildSlice H rfl rfl Try.underlying46 info59 rfl (fun ρ k => bs1 k rfl) (by decide) (by decide) (fill_RThing_1 _ _ _ _) rfl rfl rfl ?_
                intro b7 w7 hb7 H
                refine ⟨(by exact ⟨_, H.get4⟩), ?_⟩
                refine th_one 3 (by kernel_rfl) ?_
                (refine tw_append (M := zR (dropT id X)) (L := ([] : List RThing)) H.get1 (rdr_rd H.get2) rfl rfl rfl rfl Try.underlying46 info59 rfl rfl (show Try.t59.bytes = 32 from rfl) rfl (by decide) lenRThing oneRThing (by rw [List.length_nil]; omega) (by rw [List.length_nil]; unfold maxLen; omega) rfl rfl rfl ?_; intro A2 c2 w20 U; have H := H.upd1 U; clear U; rw [List.nil_append] at H ⊢; refine ⟨(by exact ⟨_, H.get4⟩), ?_⟩)
                refine th_one 10 (by kernel_rfl) ?_
                (refine tw_append (M := [toR ⟨id, last + 1, due⟩ 0]) (L := zR (dropT id X)) H.get1 (rd_blk [toR ⟨id, last + 1, due⟩ 0] H.get0 rfl lenRThing) rfl rfl rfl rfl Try.underlying46 info59 rfl rfl (show Try.t59.bytes = 32 from rfl) rfl (by decide) lenRThing oneRThing (by rw [List.length_singleton]; omega) (by rw [List.length_singleton]; unfold maxLen; omega) rfl rfl rfl ?_; intro A3 c3 w30 U; have H := H.upd1 U; clear U; refine ⟨(by exact ⟨_, H.get4⟩), ?_⟩)
                refine th_one 11 (by kernel_rfl) ?_
                refine tw_call (SortedR_c A3 c3 (zR (dropT id X) ++ [toR ⟨id, last + 1, due⟩ 0]) _ (by exact vec_rd H.get1 lenRThing (by decide)) (by simp; omega)) rfl rfl rfl rfl Try.call105 rfl rfl rfl ?_
                rintro _ w52 ⟨A4, c4, rfl, HC⟩
                have H := H.call0r HC
                refine ⟨(by exact ⟨_, H.get5⟩), ?_⟩
                refine th_take 12 rfl (by kernel_rfl) (by kernel_rfl) (by kernel_rfl) ((by exact ⟨_, H.get5⟩)) (fun _ hS => ov_fieldAddr rfl Try.underlying85 rfl (Try.sizeOf46 _) (by decide) rfl) rfl rfl rfl ?_
                refine th_one 13 (by kernel_rfl) ?_
                (refine tw_store H.get5 rfl rfl (Try.sizeOf46 _) rfl rfl rfl rfl rfl rfl rfl ?_; intro w53 U; have H := H.upd5 U; clear U)
                try simp only [List.set_cons_zero, List.set_cons_succ, Nat.zero_add] at H
                refine ⟨(by exact ⟨_, H.get5⟩), ?_⟩
                refine th_done (by kernel_rfl) ?_
                refine hK25 _ _ (TrC.keep [30, 18, 14, 8, 7, 6, 3, 1, 2] ?_)
                show TrC _ _ _ _ [(30, _), (18, _), (14, _), (8, _), (7, _), (6, _), (3, _), (1, _), (2, _)] _ _
                refine tr_seq (fun K27 hK27 => ?_)
                -- region 10: ref.go:65
                refine tr_held (fun w' => (blk b1 85 [.int .i64 now, .int .u64 (last + 1), .slice A4 ((sortR (zR (dropT id X) ++ [toR ⟨id, last + 1, due⟩ 0]))).length c4]).holds w') mixed rfl H ?_
                intro w54 H
                refine th_take 0 rfl (by kernel_rfl) (by kernel_rfl) (by kernel_rfl) (H.get5) (fun _ hS => ov_load_blkN hS rfl (Try.isAgg85 _) (Try.sizeOf85 _) rfl rfl rfl) rfl rfl rfl ?_
                refine th_take 1 rfl (by kernel_rfl) (by kernel_rfl) (by kernel_rfl) (H.get5) (fun _ hS => ov_fieldAddr rfl Try.underlying85 rfl (Try.sizeOf28 _) (by decide) rfl) rfl rfl rfl ?_
                refine th_take 2 rfl (by kernel_rfl) (by kernel_rfl) (by kernel_rfl) (H.get5) (fun _ hS => ov_load_blk hS rfl (Try.isAgg28 _) rfl rfl rfl) rfl rfl rfl ?_
                refine th_one 3 (by kernel_rfl) ?_
                (refine tw_storeW H.get4 rfl rfl (Try.sizeOf85 _) rfl rfl rfl rfl rfl rfl rfl rfl ?_; intro w55 U; have H := H.upd4 U; clear U)
                refine ⟨H.get5, ?_⟩
                refine th_take 4 rfl (by kernel_rfl) (by kernel_rfl) (by kernel_rfl) (H.get5) (fun _ hS => ov_assign rfl rfl) rfl rfl rfl ?_
                refine th_take 5 rfl (by kernel_rfl) (by kernel_rfl) (by kernel_rfl) (H.get5) (fun _ hS => ov_assign rfl rfl) rfl rfl rfl ?_
                refine th_done (by kernel_rfl) ?_
                refine hK27 _ _ (TrC.keep [8, 7, 30, 18, 14, 6, 3, 1, 2] ?_)
                show TrC _ _ _ _ [(8, _), (7, _), (30, _), (18, _), (14, _), (6, _), (3, _), (1, _), (2, _)] _ _
                refine tr_ret (post_ret3 (.inr rfl) rfl (by exact ⟨_, rfl, res_blkN H.get4 (Try.isAgg85 _) (Try.sizeOf85 _) rfl rfl⟩) rfl rfl ?_)
                (have he : setE last X id due = 0 := (by unfold setE; rw [if_neg (by omega), if_neg (by omega), if_neg (by rw [hix]; simp; omega)]); unfold setN setR; rw [if_pos he, if_pos he, setS_ok he, he]; have H2 := H.drop1.drop1.drop1.drop1.drop1; exact ⟨A4, c4, rfl, vec_len H2.get0, H2.upd0 (upd_rdr_of_vec H2.get0 lenRThing (by decide))⟩)
            · skip
              refine tw_buildSlice H rfl rfl Try.underlying46 info59 rfl (fun ρ k => bs1 k rfl) (by decide) (by decide) (fill_RThing_1 _ _ _ _) rfl rfl rfl ?_
              intro b7 w7 hb7 H
              refine ⟨(by exact ⟨_, H.get4⟩), ?_⟩
              refine th_one 2 (by kernel_rfl) ?_
              refine tw_val (ov_load_blk H.get4 rfl (Try.isAgg46 _) rfl rfl rfl) rfl ((by exact ⟨_, H.get4⟩)) rfl rfl rfl ?_
              refine th_one 3 (by kernel_rfl) ?_
              (refine tw_append (M := zR (dropT id X)) (L := ([] : List RThing)) H.get1 (rdr_rd H.get2) rfl rfl rfl rfl Try.underlying46 info59 rfl rfl (show Try.t59.bytes = 32 from rfl) rfl (by decide) lenRThing oneRThing (by rw [List.length_nil]; omega) (by rw [List.length_nil]; unfold maxLen; omega) rfl rfl rfl ?_; intro A2 c2 w20 U; have H := H.upd1 U; clear U; rw [List.nil_append] at H ⊢; refine ⟨(by exact ⟨_, H.get4⟩), ?_⟩)
              refine th_one 10 (by kernel_rfl) ?_
              (refine tw_append (M := [toR ⟨id, last + 1, due⟩ 0]) (L := zR (dropT id X)) H.get1 (rd_blk [toR ⟨id, last + 1, due⟩ 0] H.get0 rfl lenRThing) rfl rfl rfl rfl Try.underlying46 info59 rfl rfl (show Try.t59.bytes = 32 from rfl) rfl (by decide) lenRThing oneRThing (by rw [List.length_singleton]; omega) (by rw [List.length_singleton]; unfold maxLen; omega) rfl rfl rfl ?_; intro A3 c3 w30 U; have H := H.upd1 U; clear U; refine ⟨(by exact ⟨_, H.get4⟩), ?_⟩)
              refine th_one 11 (by kernel_rfl) ?_
              refine tw_call (SortedR_c A3 c3 (zR (dropT id X) ++ [toR ⟨id, last + 1, due⟩ 0]) _ (by exact vec_rd H.get1 lenRThing (by decide)) (by simp; omega)) rfl rfl rfl rfl Try.call105 rfl rfl rfl ?_
              rintro _ w56 ⟨A4, c4, rfl, HC⟩
              have H := H.call0r HC
              refine ⟨(by exact ⟨_, H.get5⟩), ?_⟩
              refine th_take 12 rfl (by kernel_rfl) (by kernel_rfl) (by kernel_rfl) ((by exact ⟨_, H.get5⟩)) (fun _ hS => ov_fieldAddr rfl Try.underlying85 rfl (Try.sizeOf46 _) (by decide) rfl) rfl rfl rfl ?_
              refine th_one 13 (by kernel_rfl) ?_
              (refine tw_store H.get5 rfl rfl (Try.sizeOf46 _) rfl rfl rfl rfl rfl rfl rfl ?_; intro w57 U; have H := H.upd5 U; clear U)
              try simp only [List.set_cons_zero, List.set_cons_succ, Nat.zero_add] at H
              refine ⟨(by exact ⟨_, H.get5⟩), ?_⟩
              refine th_done (by kernel_rfl) ?_
              refine hK25 _ _ (TrC.keep [30, 18, 14, 8, 7, 6, 3, 1, 2] ?_)
              show TrC _ _ _ _ [(30, _), (18, _), (14, _), (8, _), (7, _), (6, _), (3, _), (1, _), (2, _)] _ _
              refine tr_seq (fun K28 hK28 => ?_)
              -- region 10: ref.go:65
              refine tr_held (fun w' => (blk b1 85 [.int .i64 now, .int .u64 (last + 1), .slice A4 ((sortR (zR (dropT id X) ++ [toR ⟨id, last + 1, due⟩ 0]))).length c4]).holds w') mixed rfl H ?_
              intro w58 H
              refine th_take 0 rfl (by kernel_rfl) (by kernel_rfl) (by kernel_rfl) (H.get5) (fun _ hS => ov_load_blkN hS rfl (Try.isAgg85 _) (Try.sizeOf85 _) rfl rfl rfl) rfl rfl rfl ?_
              refine th_take 1 rfl (by kernel_rfl) (by kernel_rfl) (by kernel_rfl) (H.get5) (fun _ hS => ov_fieldAddr rfl Try.underlying85 rfl (Try.sizeOf28 _) (by decide) rfl) rfl rfl rfl ?_
              refine th_take 2 rfl (by kernel_rfl) (by kernel_rfl) (by kernel_rfl) (H.get5) (fun _ hS => ov_load_blk hS rfl (Try.isAgg28 _) rfl rfl rfl) rfl rfl rfl ?_
              refine th_one 3 (by kernel_rfl) ?_
              (refine tw_storeW H.get4 rfl rfl (Try.sizeOf85 _) rfl rfl rfl rfl rfl rfl rfl rfl ?_; intro w59 U; have H := H.upd4 U; clear U)
              refine ⟨H.get5, ?_⟩
              refine th_take 4 rfl (by kernel_rfl) (by kernel_rfl) (by kernel_rfl) (H.get5) (fun _ hS => ov_assign rfl rfl) rfl rfl rfl ?_
              refine th_take 5 rfl (by kernel_rfl) (by kernel_rfl) (by kernel_rfl) (H.get5) (fun _ hS => ov_assign rfl rfl) rfl rfl rfl ?_
              refine th_done (by kernel_rfl) ?_
              refine hK28 _ _ (TrC.keep [8, 7, 30, 18, 14, 6, 3, 1, 2] ?_)
              show TrC _ _ _ _ [(8, _), (7, _), (30, _), (18, _), (14, _), (6, _), (3, _), (1, _), (2, _)] _ _
              refine tr_ret (post_ret3 (.inr rfl) rfl (by exact ⟨_, rfl, res_blkN H.get4 (Try.isAgg85 _) (Try.sizeOf85 _) rfl rfl⟩) rfl rfl ?_)
              (have he : setE last X id due = 0 := (by unfold setE; rw [if_neg (by omega), if_neg (by omega), if_neg (by rw [hix]; simp; omega)]); unfold setN setR; rw [if_pos he, if_pos he, setS_ok he, he]; have H2 := H.drop1.drop1.drop1.drop1.drop1; exact ⟨A4, c4, rfl, vec_len H2.get0, H2.upd0 (upd_rdr_of_vec H2.get0 lenRThing (by decide))⟩)
          · skip
            refine tw_val (ov_load_blk H.get2 rfl (Try.isAgg46 _) rfl rfl rfl) rfl ((by exact ⟨_, H.get2⟩)) rfl rfl rfl ?_
            refine th_two 0 9 (by kernel_rfl) ?_ ?_
            · skip
              refine tw_buildSlice0 H rfl rfl Try.underlying46 info59 rfl rfl rfl ?_
              intro b6 w16 hb6 H
              have H := H.upd0 (upd_vec_of_blk (L := ([] : List RThing)) (enc := encRThing) (sz := 4) H.get0 rfl lenRThing (by simp))
              refine ⟨(by exact ⟨_, H.get3⟩), ?_⟩
              refine th_two 3 9 (by kernel_rfl) ?_ ?_
              · skip
                (refine tw_append (M := zR (dropT id X)) (L := ([] : List RThing)) H.get0 (rdr_rd H.get1) rfl rfl rfl rfl Try.underlying46 info59 rfl rfl (show Try.t59.bytes = 32 from rfl) rfl (by decide) lenRThing oneRThing (by rw [List.length_nil]; omega) (by rw [List.length_nil]; unfold maxLen; omega) rfl rfl rfl ?_; intro A2 c2 w20 U; have H := H.upd0 U; clear U; rw [List.nil_append] at H ⊢; refine ⟨(by exact ⟨_, H.get3⟩), ?_⟩)
                refine th_one 9 (by kernel_rfl) ?_
                refine tw_buildSlice H rfl rfl Try.underlying46 info59 rfl (fun ρ k => bs1 k rfl) (by decide) (by decide) (fill_RThing_1 _ _ _ _) rfl rfl rfl ?_
                intro b7 w7 hb7 H
                refine ⟨(by exact ⟨_, H.get4⟩), ?_⟩
                refine th_one 10 (by kernel_rfl) ?_
                (refine tw_append (M := [toR ⟨id, last + 1, due⟩ 0]) (L := zR (dropT id X)) H.get1 (rd_blk [toR ⟨id, last + 1, due⟩ 0] H.get0 rfl lenRThing) rfl rfl rfl rfl Try.underlying46 info59 rfl rfl (show Try.t59.bytes = 32 from rfl) rfl (by decide) lenRThing oneRThing (by rw [List.length_singleton]; omega) (by rw [List.length_singleton]; unfold maxLen; omega) rfl rfl rfl ?_; intro A3 c3 w30 U; have H := H.upd1 U; clear U; refine ⟨(by exact ⟨_, H.get4⟩), ?_⟩)
                refine th_one 11 (by kernel_rfl) ?_
                refine tw_call (SortedR_c A3 c3 (zR (dropT id X) ++ [toR ⟨id, last + 1, due⟩ 0]) _ (by exact vec_rd H.get1 lenRThing (by decide)) (by simp; omega)) rfl rfl rfl rfl Try.call105 rfl rfl rfl ?_
                rintro _ w60 ⟨A4, c4, rfl, HC⟩
                have H := H.call0r HC
                refine ⟨(by exact ⟨_, H.get5⟩), ?_⟩
                refine th_take 12 rfl (by kernel_rfl) (by kernel_rfl) (by kernel_rfl) ((by exact ⟨_, H.get5⟩)) (fun _ hS => ov_fieldAddr rfl Try.underlying85 rfl (Try.sizeOf46 _) (by decide) rfl) rfl rfl rfl ?_
                refine th_one 13 (by kernel_rfl) ?_
                (refine tw_store H.get5 rfl rfl (Try.sizeOf46 _) rfl rfl rfl rfl rfl rfl rfl ?_; intro w61 U; have H := H.upd5 U; clear U)
                try simp only [List.set_cons_zero, List.set_cons_succ, Nat.zero_add] at H
                refine ⟨(by exact ⟨_, H.get5⟩), ?_⟩
                refine th_done (by kernel_rfl) ?_
                refine hK25 _ _ (TrC.keep [30, 18, 14, 8, 7, 6, 3, 1, 2] ?_)
                show TrC _ _ _ _ [(30, _), (18, _), (14, _), (8, _), (7, _), (6, _), (3, _), (1, _), (2, _)] _ _
                refine tr_seq (fun K29 hK29 => ?_)
                -- region 10: ref.go:65
                refine tr_held (fun w' => (blk b1 85 [.int .i64 now, .int .u64 (last + 1), .slice A4 ((sortR (zR (dropT id X) ++ [toR ⟨id, last + 1, due⟩ 0]))).length c4]).holds w') mixed rfl H ?_
                intro w62 H
                refine th_take 0 rfl (by kernel_rfl) (by kernel_rfl) (by kernel_rfl) (H.get5) (fun _ hS => ov_load_blkN hS rfl (Try.isAgg85 _) (Try.sizeOf85 _) rfl rfl rfl) rfl rfl rfl ?_
                refine th_take 1 rfl (by kernel_rfl) (by kernel_rfl) (by kernel_rfl) (H.get5) (fun _ hS => ov_fieldAddr rfl Try.underlying85 rfl (Try.sizeOf28 _) (by decide) rfl) rfl rfl rfl ?_
                refine th_take 2 rfl (by kernel_rfl) (by kernel_rfl) (by kernel_rfl) (H.get5) (fun _ hS => ov_load_blk hS rfl (Try.isAgg28 _) rfl rfl rfl) rfl rfl rfl ?_
                refine th_one 3 (by kernel_rfl) ?_
                (refine tw_storeW H.get4 rfl rfl (Try.sizeOf85 _) rfl rfl rfl rfl rfl rfl rfl rfl ?_; intro w63 U; have H := H.upd4 U; clear U)
                refine ⟨H.get5, ?_⟩
                refine th_take 4 rfl (by kernel_rfl) (by kernel_rfl) (by kernel_rfl) (H.get5) (fun _ hS => ov_assign rfl rfl) rfl rfl rfl ?_
                refine th_take 5 rfl (by kernel_rfl) (by kernel_rfl) (by kernel_rfl) (H.get5) (fun _ hS => ov_assign rfl rfl) rfl rfl rfl ?_
                refine th_done (by kernel_rfl) ?_
                refine hK29 _ _ (TrC.keep [8, 7, 30, 18, 14, 6, 3, 1, 2] ?_)
                show TrC _ _ _ _ [(8, _), (7, _), (30, _), (18, _), (14, _), (6, _), (3, _), (1, _), (2, _)] _ _
                refine tr_ret (post_ret3 (.inr rfl) rfl (by exact ⟨_, rfl, res_blkN H.get4 (Try.isAgg85 _) (Try.sizeOf85 _) rfl rfl⟩) rfl rfl ?_)
                (have he : setE last X id due = 0 := (by unfold setE; rw [if_neg (by omega), if_neg (by omega), if_neg (by rw [hix]; simp; omega)]); unfold setN setR; rw [if_pos he, if_pos he, setS_ok he, he]; have H2 := H.drop1.drop1.drop1.drop1.drop1; exact ⟨A4, c4, rfl, vec_len H2.get0, H2.upd0 (upd_rdr_of_vec H2.get0 lenRThing (by decide))⟩)
              · skip
                refine tw_buildSlice H rfl rfl Try.underlying46 info59 rfl (fun ρ k => bs1 k rfl) (by decide) (by decide) (fill_RThing_1 _ _ _ _) rfl rfl rfl ?_
                intro b7 w7 hb7 H
                refine ⟨(by exact ⟨_, H.get4⟩), ?_⟩
                refine th_one 3 (by kernel_rfl) ?_
                (refine tw_append (M := zR (dropT id X)) (L := ([] : List RThing)) H.get1 (rdr_rd H.get2) rfl rfl rfl rfl Try.underlying46 info59 rfl rfl (show Try.t59.bytes = 32 from rfl) rfl (by decide) lenRThing oneRThing (by rw [List.length_nil]; omega) (by rw [List.length_nil]; unfold maxLen; omega) rfl rfl rfl ?_; intro A2 c2 w20 U; have H := H.upd1 U; clear U; rw [List.nil_append] at H ⊢; refine ⟨(by exact ⟨_, H.get4⟩), ?_⟩)
                refine th_one 10 (by kernel_rfl) ?_
                (refine tw_append (M := [toR ⟨id, last + 1, due⟩ 0]) (L := zR (dropT id X)) H.get1 (rd_blk [toR ⟨id, last + 1, due⟩ 0] H.get0 rfl lenRThing) rfl rfl rfl rfl Try.underlying46 info59 rfl rfl (show Try.t59.bytes = 32 from rfl) rfl (by decide) lenRThing oneRThing (by rw [List.length_singleton]; omega) (by rw [List.length_singleton]; unfold maxLen; omega) rfl rfl rfl ?_; intro A3 c3 w30 U; have H := H.upd1 U; clear U; refine ⟨(by exact ⟨_, H.get4⟩), ?_⟩)
                refine th_one 11 (by kernel_rfl) ?_
                refine tw_call (SortedR_c A3 c3 (zR (dropT id X) ++ [toR ⟨id, last + 1, due⟩ 0]) _ (by exact vec_rd H.get1 lenRThing (by decide)) (by simp; omega)) rfl rfl rfl rfl Try.call105 rfl rfl rfl ?_
                rintro _ w64 ⟨A4, c4, rfl, HC⟩
                have H := H.call0r HC
                refine ⟨(by exact ⟨_, H.get5⟩), ?_⟩
                refine th_take 12 rfl (by kernel_rfl) (by kernel_rfl) (by kernel_rfl) ((by exact ⟨_, H.get5⟩)) (fun _ hS => ov_fieldAddr rfl Try.underlying85 rfl (Try.sizeOf46 _) (by decide) rfl) rfl rfl rfl ?_
                refine th_one 13 (by kernel_rfl) ?_
                (refine tw_store H.get5 rfl rfl (Try.sizeOf46 _) rfl rfl rfl rfl rfl rfl rfl ?_; intro w65 U; have H := H.upd5 U; clear U)
                try simp only [List.set_cons_zero, List.set_cons_succ, Nat.zero_add] at H
                refine ⟨(by exact ⟨_, H.get5⟩), ?_⟩
                refine th_done (by kernel_rfl) ?_
                refine hK25 _ _ (TrC.keep [30, 18, 14, 8, 7, 6, 3, 1, 2] ?_)
                show TrC _ _ _ _ [(30, _), (18, _), (14, _), (8, _), (7, _), (6, _), (3, _), (1, _), (2, _)] _ _
                refine tr_seq (fun K30 hK30 => ?_)
                -- region 10: ref.go:65
                refine tr_held (fun w' => (blk b1 85 [.int .i64 now, .int .u64 (last + 1), .slice A4 ((sortR (zR (dropT id X) ++ [toR ⟨id, last + 1, due⟩ 0]))).length c4]).holds w') mixed rfl H ?_
                intro w66 H
                refine th_take 0 rfl (by kernel_rfl) (by kernel_rfl) (by kernel_rfl) (H.get5) (fun _ hS => ov_load_blkN hS rfl (Try.isAgg85 _) (Try.sizeOf85 _) rfl rfl rfl) rfl rfl rfl ?_
                refine th_take 1 rfl (by kernel_rfl) (by kernel_rfl) (by kernel_rfl) (H.get5) (fun _ hS => ov_fieldAddr rfl Try.underlying85 rfl (Try.sizeOf28 _) (by decide) rfl) rfl rfl rfl ?_
                refine th_take 2 rfl (by kernel_rfl) (by kernel_rfl) (by kernel_rfl) (H.get5) (fun _ hS => ov_load_blk hS rfl (Try.isAgg28 _) rfl rfl rfl) rfl rfl rfl ?_
                refine th_one 3 (by kernel_rfl) ?_
                (refine tw_storeW H.get4 rfl rfl (Try.sizeOf85 _) rfl rfl rfl rfl rfl rfl rfl rfl ?_; intro w67 U; have H := H.upd4 U; clear U)
                refine ⟨H.get5, ?_⟩
                refine th_take 4 rfl (by kernel_rfl) (by kernel_rfl) (by kernel_rfl) (H.get5) (fun _ hS => ov_assign rfl rfl) rfl rfl rfl ?_
                refine th_take 5 rfl (by kernel_rfl) (by kernel_rfl) (by kernel_rfl) (H.get5) (fun _ hS => ov_assign rfl rfl) rfl rfl rfl ?_
                refine th_done (by kernel_rfl) ?_
                refine hK30 _ _ (TrC.keep [8, 7, 30, 18, 14, 6, 3, 1, 2] ?_)
                show TrC _ _ _ _ [(8, _), (7, _), (30, _), (18, _), (14, _), (6, _), (3, _), (1, _), (2, _)] _ _
                refine tr_ret (post_ret3 (.inr rfl) rfl (by exact ⟨_, rfl, res_blkN H.get4 (Try.isAgg85 _) (Try.sizeOf85 _) rfl rfl⟩) rfl rfl ?_)
                (have he : setE last X id due = 0 := (by unfold setE; rw [if_neg (by omega), if_neg (by omega), if_neg (by rw [hix]; simp; omega)]); unfold setN setR; rw [if_pos he, if_pos he, setS_ok he, he]; have H2 := H.drop1.drop1.drop1.drop1.drop1; exact ⟨A4, c4, rfl, vec_len H2.get0, H2.upd0 (upd_rdr_of_vec H2.get0 lenRThing (by decide))⟩)
            · skip
              refine tw_buildSlice H rfl rfl Try.underlying46 info59 rfl (fun ρ k => bs1 k rfl) (by decide) (by decide) (fill_RThing_1 _ _ _ _) rfl rfl rfl ?_
              intro b7 w7 hb7 H
              refine ⟨(by exact ⟨_, H.get3⟩), ?_⟩
              refine th_one 0 (by kernel_rfl) ?_
              refine tw_buildSlice0 H rfl rfl Try.underlying46 info59 rfl rfl rfl ?_
              intro b6 w16 hb6 H
              have H := H.upd0 (upd_vec_of_blk (L := ([] : List RThing)) (enc := encRThing) (sz := 4) H.get0 rfl lenRThing (by simp))
              refine ⟨(by exact ⟨_, H.get4⟩), ?_⟩
              refine th_one 3 (by kernel_rfl) ?_
              (refine tw_append (M := zR (dropT id X)) (L := ([] : List RThing)) H.get0 (rdr_rd H.get2) rfl rfl rfl rfl Try.underlying46 info59 rfl rfl (show Try.t59.bytes = 32 from rfl) rfl (by decide) lenRThing oneRThing (by rw [List.length_nil]; omega) (by rw [List.length_nil]; unfold maxLen; omega) rfl rfl rfl ?_; intro A2 c2 w20 U; have H := H.upd0 U; clear U; rw [List.nil_append] at H ⊢; refine ⟨(by exact ⟨_, H.get4⟩), ?_⟩)
              refine th_one 10 (by kernel_rfl) ?_
              (refine tw_append (M := [toR ⟨id, last + 1, due⟩ 0]) (L := zR (dropT id X)) H.get0 (rd_blk [toR ⟨id, last + 1, due⟩ 0] H.get1 rfl lenRThing) rfl rfl rfl rfl Try.underlying46 info59 rfl rfl (show Try.t59.bytes = 32 from rfl) rfl (by decide) lenRThing oneRThing (by rw [List.length_singleton]; omega) (by rw [List.length_singleton]; unfold maxLen; omega) rfl rfl rfl ?_; intro A3 c3 w30 U; have H := H.upd0 U; clear U; refine ⟨(by exact ⟨_, H.get4⟩), ?_⟩)
              refine th_one 11 (by kernel_rfl) ?_
              refine tw_call (SortedR_c A3 c3 (zR (dropT id X) ++ [toR ⟨id, last + 1, due⟩ 0]) _ (by exact vec_rd H.get0 lenRThing (by decide)) (by simp; omega)) rfl rfl rfl rfl Try.call105 rfl rfl rfl ?_
              rintro _ w68 ⟨A4, c4, rfl, HC⟩
              have H := H.call0r HC
              refine ⟨(by exact ⟨_, H.get5⟩), ?_⟩
              refine th_take 12 rfl (by kernel_rfl) (by kernel_rfl) (by kernel_rfl) ((by exact ⟨_, H.get5⟩)) (fun _ hS => ov_fieldAddr rfl Try.underlying85 rfl (Try.sizeOf46 _) (by decide) rfl) rfl rfl rfl ?_
              refine th_one 13 (by kernel_rfl) ?_
              (refine tw_store H.get5 rfl rfl (Try.sizeOf46 _) rfl rfl rfl rfl rfl rfl rfl ?_; intro w69 U; have H := H.upd5 U; clear U)
              try simp only [List.set_cons_zero, List.set_cons_succ, Nat.zero_add] at H
              refine ⟨(by exact ⟨_, H.get5⟩), ?_⟩
              refine th_done (by kernel_rfl) ?_
              refine hK25 _ _ (TrC.keep [30, 18, 14, 8, 7, 6, 3, 1, 2] ?_)
              show TrC _ _ _ _ [(30, _), (18, _), (14, _), (8, _), (7, _), (6, _), (3, _), (1, _), (2, _)] _ _
              refine tr_seq (fun K31 hK31 => ?_)
              -- region 10: ref.go:65
              refine tr_held (fun w' => (blk b1 85 [.int .i64 now, .int .u64 (last + 1), .slice A4 ((sortR (zR (dropT id X) ++ [toR ⟨id, last + 1, due⟩ 0]))).length c4]).holds w') mixed rfl H ?_
              intro w70 H
              refine th_take 0 rfl (by kernel_rfl) (by kernel_rfl) (by kernel_rfl) (H.get5) (fun _ hS => ov_load_blkN hS rfl (Try.isAgg85 _) (Try.sizeOf85 _) rfl rfl rfl) rfl rfl rfl ?_
              refine th_take 1 rfl (by kernel_rfl) (by kernel_rfl) (by kernel_rfl) (H.get5) (fun _ hS => ov_fieldAddr rfl Try.underlying85 rfl (Try.sizeOf28 _) (by decide) rfl) rfl rfl rfl ?_
              refine th_take 2 rfl (by kernel_rfl) (by kernel_rfl) (by kernel_rfl) (H.get5) (fun _ hS => ov_load_blk hS rfl (Try.isAgg28 _) rfl rfl rfl) rfl rfl rfl ?_
              refine th_one 3 (by kernel_rfl) ?_
              (refine tw_storeW H.get4 rfl rfl (Try.sizeOf85 _) rfl rfl rfl rfl rfl rfl rfl rfl ?_; intro w71 U; have H := H.upd4 U; clear U)
              refine ⟨H.get5, ?_⟩
              refine th_take 4 rfl (by kernel_rfl) (by kernel_rfl) (by kernel_rfl) (H.get5) (fun _ hS => ov_assign rfl rfl) rfl rfl rfl ?_
              refine th_take 5 rfl (by kernel_rfl) (by kernel_rfl) (by kernel_rfl) (H.get5) (fun _ hS => ov_assign rfl rfl) rfl rfl rfl ?_
              refine th_done (by kernel_rfl) ?_
              refine hK31 _ _ (TrC.keep [8, 7, 30, 18, 14, 6, 3, 1, 2] ?_)
              show TrC _ _ _ _ [(8, _), (7, _), (30, _), (18, _), (14, _), (6, _), (3, _), (1, _), (2, _)] _ _
              refine tr_ret (post_ret3 (.inr rfl) rfl (by exact ⟨_, rfl, res_blkN H.get4 (Try.isAgg85 _) (Try.sizeOf85 _) rfl rfl⟩) rfl rfl ?_)
              (have he : setE last X id due = 0 := (by unfold setE; rw [if_neg (by omega), if_neg (by omega), if_neg (by rw [hix]; simp; omega)]); unfold setN setR; rw [if_pos he, if_pos he, setS_ok he, he]; have H2 := H.drop1.drop1.drop1.drop1.drop1; exact ⟨A4, c4, rfl, vec_len H2.get0, H2.upd0 (upd_rdr_of_vec H2.get0 lenRThing (by decide))⟩)
          · skip
            refine tw_buildSlice H rfl rfl Try.underlying46 info59 rfl (fun ρ k => bs1 k rfl) (by decide) (by decide) (fill_RThing_1 _ _ _ _) rfl rfl rfl ?_
            intro b7 w7 hb7 H
            refine ⟨(by exact ⟨_, H.get3⟩), ?_⟩
            refine th_two 0 2 (by kernel_rfl) ?_ ?_
            · skip
              refine tw_buildSlice0 H rfl rfl Try.underlying46 info59 rfl rfl rfl ?_
              intro b6 w16 hb6 H
              have H := H.upd0 (upd_vec_of_blk (L := ([] : List RThing)) (enc := encRThing) (sz := 4) H.get0 rfl lenRThing (by simp))
              refine ⟨(by exact ⟨_, H.get4⟩), ?_⟩
              refine th_one 2 (by kernel_rfl) ?_
              refine tw_val (ov_load_blk H.get4 rfl (Try.isAgg46 _) rfl rfl rfl) rfl ((by exact ⟨_, H.get4⟩)) rfl rfl rfl ?_
              refine th_one 3 (by kernel_rfl) ?_
              (refine tw_append (M := zR (dropT id X)) (L := ([] : List RThing)) H.get0 (rdr_rd H.get2) rfl rfl rfl rfl Try.underlying46 info59 rfl rfl (show Try.t59.bytes = 32 from rfl) rfl (by decide) lenRThing oneRThing (by rw [List.length_nil]; omega) (by rw [List.length_nil]; unfold maxLen; omega) rfl rfl rfl ?_; intro A2 c2 w20 U; have H := H.upd0 U; clear U; rw [List.nil_append] at H ⊢; refine ⟨(by exact ⟨_, H.get4⟩), ?_⟩)
              refine th_one 10 (by kernel_rfl) ?_
              (refine tw_append (M := [toR ⟨id, last + 1, due⟩ 0]) (L := zR (dropT id X)) H.get0 (rd_blk [toR ⟨id, last + 1, due⟩ 0] H.get1 rfl lenRThing) rfl rfl rfl rfl Try.underlying46 info59 rfl rfl (show Try.t59.bytes = 32 from rfl) rfl (by decide) lenRThing oneRThing (by rw [List.length_singleton]; omega) (by rw [List.length_singleton]; unfold maxLen; omega) rfl rfl rfl ?_; intro A3 c3 w30 U; have H := H.upd0 U; clear U; refine ⟨(by exact ⟨_, H.get4⟩), ?_⟩)
              refine th_one 11 (by kernel_rfl) ?_
              refine tw_call (SortedR_c A3 c3 (zR (dropT id X) ++ [toR ⟨id, last + 1, due⟩ 0]) _ (by exact vec_rd H.get0 lenRThing (by decide)) (by simp; omega)) rfl rfl rfl rfl Try.call105 rfl rfl rfl ?_
              rintro _ w72 ⟨A4, c4, rfl, HC⟩
              have H := H.call0r HC
              refine ⟨(by exact ⟨_, H.get5⟩), ?_⟩
              refine th_take 12 rfl (by kernel_rfl) (by kernel_rfl) (by kernel_rfl) ((by exact ⟨_, H.get5⟩)) (fun _ hS => ov_fieldAddr rfl Try.underlying85 rfl (Try.sizeOf46 _) (by decide) rfl) rfl rfl rfl ?_
              refine th_one 13 (by kernel_rfl) ?_
              (refine tw_store H.get5 rfl rfl (Try.sizeOf46 _) rfl rfl rfl rfl rfl rfl rfl ?_; intro w73 U; have H := H.upd5 U; clear U)
              try simp only [List.set_cons_zero, List.set_cons_succ, Nat.zero_add] at H
              refine ⟨(by exact ⟨_, H.get5⟩), ?_⟩
              refine th_done (by kernel_rfl) ?_
              refine hK25 _ _ (TrC.keep [30, 18, 14, 8, 7, 6, 3, 1, 2] ?_)
              show TrC _ _ _ _ [(30, _), (18, _), (14, _), (8, _), (7, _), (6, _), (3, _), (1, _), (2, _)] _ _
              refine tr_seq (fun K32 hK32 => ?_)
              -- region 10: ref.go:65
              refine tr_held (fun w' => (blk b1 85 [.int .i64 now, .int .u64 (last + 1), .slice A4 ((sortR (zR (dropT id X) ++ [toR ⟨id, last + 1, due⟩ 0]))).length c4]).holds w') mixed rfl H ?_
              intro w74 H
              refine th_take 0 rfl (by kernel_rfl) (by kernel_rfl) (by kernel_rfl) (H.get5) (fun _ hS => ov_load_blkN hS rfl (Try.isAgg85 _) (Try.sizeOf85 _) rfl rfl rfl) rfl rfl rfl ?_
              refine th_take 1 rfl (by kernel_rfl) (by kernel_rfl) (by kernel_rfl) (H.get5) (fun _ hS => ov_fieldAddr rfl Try.underlying85 rfl (Try.sizeOf28 _) (by decide) rfl) rfl rfl rfl ?_
              refine th_take 2 rfl (by kernel_rfl) (by kernel_rfl) (by kernel_rfl) (H.get5) (fun _ hS => ov_load_blk hS rfl (Try.isAgg28 _) rfl rfl rfl) rfl rfl rfl ?_
              refine th_one 3 (by kernel_rfl) ?_
              (refine tw_storeW H.get4 rfl rfl (Try.sizeOf85 _) rfl rfl rfl rfl rfl rfl rfl rfl ?_; intro w75 U; have H := H.upd4 U; clear U)
              refine ⟨H.get5, ?_⟩
              refine th_take 4 rfl (by kernel_rfl) (by kernel_rfl) (by kernel_rfl) (H.get5) (fun _ hS => ov_assign rfl rfl) rfl rfl rfl ?_
              refine th_take 5 rfl (by kernel_rfl) (by kernel_rfl) (by kernel_rfl) (H.get5) (fun _ hS => ov_assign rfl rfl) rfl rfl rfl ?_
              refine th_done (by kernel_rfl) ?_
              refine hK32 _ _ (TrC.keep [8, 7, 30, 18, 14, 6, 3, 1, 2] ?_)
              show TrC _ _ _ _ [(8, _), (7, _), (30, _), (18, _), (14, _), (6, _), (3, _), (1, _), (2, _)] _ _
              refine tr_ret (post_ret3 (.inr rfl) rfl (by exact ⟨_, rfl, res_blkN H.get4 (Try.isAgg85 _) (Try.sizeOf85 _) rfl rfl⟩) rfl rfl ?_)
              (have he : setE last X id due = 0 := (by unfold setE; rw [if_neg (by omega), if_neg (by omega), if_neg (by rw [hix]; simp; omega)]); unfold setN setR; rw [if_pos he, if_pos he, setS_ok he, he]; have H2 := H.drop1.drop1.drop1.drop1.drop1; exact ⟨A4, c4, rfl, vec_len H2.get0, H2.upd0 (upd_rdr_of_vec H2.get0 lenRThing (by decide))⟩)
            · skip
              refine tw_val (ov_load_blk H.get3 rfl (Try.isAgg46 _) rfl rfl rfl) rfl ((by exact ⟨_, H.get3⟩)) rfl rfl rfl ?_
              refine th_one 0 (by kernel_rfl) ?_
              refine tw_buildSlice0 H rfl rfl Try.underlying46 info59 rfl rfl rfl ?_
              intro b6 w16 hb6 H
              have H := H.upd0 (upd_vec_of_blk (L := ([] : List RThing)) (enc := encRThing) (sz := 4) H.get0 rfl lenRThing (by simp))
              refine ⟨(by exact ⟨_, H.get4⟩), ?_⟩
              refine th_one 3 (by kernel_rfl) ?_
              (refine tw_append (M := zR (dropT id X)) (L := ([] : List RThing)) H.get0 (rdr_rd H.get2) rfl rfl rfl rfl Try.underlying46 info59 rfl rfl (show Try.t59.bytes = 32 from rfl) rfl (by decide) lenRThing oneRThing (by rw [List.length_nil]; omega) (by rw [List.length_nil]; unfold maxLen; omega) rfl rfl rfl ?_; intro A2 c2 w20 U; have H := H.upd0 U; clear U; rw [List.nil_append] at H ⊢; refine ⟨(by exact ⟨_, H.get4⟩), ?_⟩)
              refine th_one 10 (by kernel_rfl) ?_
              (refine tw_append (M := [toR ⟨id, last + 1, due⟩ 0]) (L := zR (dropT id X)) H.get0 (rd_blk [toR ⟨id, last + 1, due⟩ 0] H.get1 rfl lenRThing) rfl rfl rfl rfl Try.underlying46 info59 rfl rfl (show Try.t59.bytes = 32 from rfl) rfl (by decide) lenRThing oneRThing (by rw [List.length_singleton]; omega) (by rw [List.length_singleton]; unfold maxLen; omega) rfl rfl rfl ?_; intro A3 c3 w30 U; have H := H.upd0 U; clear U; refine ⟨(by exact ⟨_, H.get4⟩), ?_⟩)
              refine th_one 11 (by kernel_rfl) ?_
              refine tw_call (SortedR_c A3 c3 (zR (dropT id X) ++ [toR ⟨id, last + 1, due⟩ 0]) _ (by exact vec_rd H.get0 lenRThing (by decide)) (by simp; omega)) rfl rfl rfl rfl Try.call105 rfl rfl rfl ?_
              rintro _ w76 ⟨A4, c4, rfl, HC⟩
              have H := H.call0r HC
              refine ⟨(by exact ⟨_, H.get5⟩), ?_⟩
              refine th_take 12 rfl (by kernel_rfl) (by kernel_rfl) (by kernel_rfl) ((by exact ⟨_, H.get5⟩)) (fun _ hS => ov_fieldAddr rfl Try.underlying85 rfl (Try.sizeOf46 _) (by decide) rfl) rfl rfl rfl ?_
              refine th_one 13 (by kernel_rfl) ?_
              (refine tw_store H.get5 rfl rfl (Try.sizeOf46 _) rfl rfl rfl rfl rfl rfl rfl ?_; intro w77 U; have H := H.upd5 U; clear U)
              try simp only [List.set_cons_zero, List.set_cons_succ, Nat.zero_add] at H
              refine ⟨(by exact ⟨_, H.get5⟩), ?_⟩
              refine th_done (by kernel_rfl) ?_
              refine hK25 _ _ (TrC.keep [30, 18, 14, 8, 7, 6, 3, 1, 2] ?_)
              show TrC _ _ _ _ [(30, _), (18, _), (14, _), (8, _), (7, _), (6, _), (3, _), (1, _), (2, _)] _ _
              refine tr_seq (fun K33 hK33 => ?_)
              -- region 10: ref.go:65
              refine tr_held (fun w' => (blk b1 85 [.int .i64 now, .int .u64 (last + 1), .slice A4 ((sortR (zR (dropT id X) ++ [toR ⟨id, last + 1, due⟩ 0]))).length c4]).holds w') mixed rfl H ?_
              intro w78 H
              refine th_take 0 rfl (by kernel_rfl) (by kernel_rfl) (by kernel_rfl) (H.get5) (fun _ hS => ov_load_blkN hS rfl (Try.isAgg85 _) (Try.sizeOf85 _) rfl rfl rfl) rfl rfl rfl ?_
              refine th_take 1 rfl (by kernel_rfl) (by kernel_rfl) (by kernel_rfl) (H.get5) (fun _ hS => ov_fieldAddr rfl Try.underlying85 rfl (Try.sizeOf28 _) (by decide) rfl) rfl rfl rfl ?_
              refine th_take 2 rfl (by kernel_rfl) (by kernel_rfl) (by kernel_rfl) (H.get5) (fun _ hS => ov_load_blk hS rfl (Try.isAgg28 _) rfl rfl rfl) rfl rfl rfl ?_
              refine th_one 3 (by kernel_rfl) ?_
              (refine tw_storeW H.get4 rfl rfl (Try.sizeOf85 _) rfl rfl rfl rfl rfl rfl rfl rfl ?_; intro w79 U; have H := H.upd4 U; clear U)
              refine ⟨H.get5, ?_⟩
              refine th_take 4 rfl (by kernel_rfl) (by kernel_rfl) (by kernel_rfl) (H.get5) (fun _ hS => ov_assign rfl rfl) rfl rfl rfl ?_
              refine th_take 5 rfl (by kernel_rfl) (by kernel_rfl) (by kernel_rfl) (H.get5) (fun _ hS => ov_assign rfl rfl) rfl rfl rfl ?_
              refine th_done (by kernel_rfl) ?_
              refine hK33 _ _ (TrC.keep [8, 7, 30, 18, 14, 6, 3, 1, 2] ?_)
              show TrC _ _ _ _ [(8, _), (7, _), (30, _), (18, _), (14, _), (6, _), (3, _), (1, _), (2, _)] _ _
              refine tr_ret (post_ret3 (.inr rfl) rfl (by exact ⟨_, rfl, res_blkN H.get4 (Try.isAgg85 _) (Try.sizeOf85 _) rfl rfl⟩) rfl rfl ?_)
              (have he : setE last X id due = 0 := (by unfold setE; rw [if_neg (by omega), if_neg (by omega), if_neg (by rw [hix]; simp; omega)]); unfold setN setR; rw [if_pos he, if_pos he, setS_ok he, he]; have H2 := H.drop1.drop1.drop1.drop1.drop1; exact ⟨A4, c4, rfl, vec_len H2.get0, H2.upd0 (upd_rdr_of_vec H2.get0 lenRThing (by decide))⟩)

end Go.Proofs.Ytblipnjjgbggiaa
