/- Contracts of wheel.Wheel: DeadlineBytes. Conditions: none. -/
import Derived.Test.YtblipnjjgbggiaaQlD
namespace Go.Proofs.Ytblipnjjgbggiaa
open Go Go.RowKit
set_option linter.unusedVariables false
set_option linter.unusedSimpArgs false

theorem bytes_app {L M : List Int} (h : Bytes L) (h' : Bytes M) : Bytes (L ++ M) := fun x hx => by
  rcases List.mem_append.mp hx with q | q
  · exact h x q
  · exact h' x q
theorem bytes_num {m : Int} {n : Nat} (hm : 0 ≤ m ∧ m ≤ 200) (hn : n < 2 ^ 64) : Bytes (numM m n) := fun x hx => by
  have h8 := bytesN_8 hn
  unfold numM at hx
  rcases List.mem_cons.mp hx with q | q
  · omega
  · exact bytesN_byte n x q
theorem bytes_numI {x : Int} (h : 0 ≤ x ∧ x ≤ 18446744073709551615) : Bytes (numI x) := bytes_num (by decide) (by omega)
theorem bytes_put {now last : Int} {X : List Thing} (hX : ∀ t, t ∈ X → (0 ≤ t.id ∧ t.id ≤ 18446744073709551615) ∧ (0 ≤ t.gen ∧ t.gen ≤ 18446744073709551615) ∧ (0 ≤ t.due ∧ t.due ≤ 9223372036854775807)) (hl : X.length ≤ 256) (hn : -9223372036854775808 ≤ now ∧ now ≤ 9223372036854775807) (hla : 0 ≤ last ∧ last ≤ 18446744073709551615) : Bytes (putB now last X) ∧ (putB now last X).length ≤ 8000 := by
  constructor
  · unfold putB
    refine bytes_app (bytes_app (bytes_app ?_ (bytes_numI hla)) (bytes_numI (by omega))) fun x hx => ?_
    · unfold intM; split
      · exact bytes_num (by decide) (by omega)
      · exact bytes_num (by decide) (by omega)
    · obtain ⟨t, ht, hxt⟩ := List.mem_flatMap.mp hx
      obtain ⟨h1, h2, h3⟩ := hX t ht
      exact bytes_app (bytes_app (bytes_numI h1) (bytes_numI h2)) (bytes_numI (by omega)) x hxt
  · have g1 := intM_len hn
    have g2 := numI_len hla
    have g3 := numI_len (x := (X.length : Int)) (by omega)
    have g4 := flatT_le X hX
    unfold putB; simp only [List.length_append]; omega
theorem zR_inj {X Y : List Thing} (h : zR X = zR Y) : X = Y := by rw [← zR_plain X, ← zR_plain Y, h]
theorem same_z {p q : Prop} [Decidable p] [Decidable q] {X Y : List Thing} : decide (p ∧ q ∧ X = Y) = decide (p ∧ q ∧ zR X = zR Y) := decide_eq_decide.mpr ⟨fun h => ⟨h.1, h.2.1, by rw [h.2.2]⟩, fun h => ⟨h.1, h.2.1, zR_inj h.2.2⟩⟩
theorem oX_len {s : RS} {m : Nat} (h : GoodS m s) : (oX s).length ≤ 256 := by
  have hn := vN_rng (most := 256) ((h.sI).sN (most := MXI)) (by decide)
  unfold oX; split
  · unfold rdX; rw [rdT_len]
    have : rdK s = vN 256 (sN MXI (sI s)) := rfl
    omega
  · simp

/-! curfew/curfewlaw13.DeadlineBytes -/
set_option maxRecDepth 20000 in
theorem DeadlineBytes_c (B : Option Addr) (c : Nat) (X : List Thing) (now last : Int) (B2 : Option Addr) (c2 : Nat) (Y : List Thing) (now2 last2 : Int) (Bb : Option Addr) (cb : Nat) (Lb : List Int) (w : World) (hR : Rd w B 3 (X.map encThing)) (hR2 : Rd w B2 3 (Y.map encThing)) (hRb : Rd w Bb 1 (Lb.map encU8)) (hXr : ∀ t, t ∈ X → (0 ≤ t.id ∧ t.id ≤ 18446744073709551615)) (hn : -9223372036854775808 ≤ now ∧ now ≤ 9223372036854775807) (h0 : 0 ≤ last ∧ last ≤ 18446744073709551615) (hBb : Bytes Lb) (hcb : Lb.length ≤ cb) : Does Try.prog 12 #[.agg #[.int .i64 now, .int .u64 last, .slice B (X).length c], .agg #[.int .i64 now2, .int .u64 last2, .slice B2 (Y).length c2], .slice Bb Lb.length cb] w (fun v w' => v = .bool true ∧ SH w noBlocks [] w') := by
  refine does_enter3 Try.func12 rfl Try.ntmps12 rfl ?_
  have H := SH.start w noBlocks
  refine tr_seq (fun K1 hK1 => ?_)
  -- region 0: law.go:159
  refine tr_region ?_
  refine tr_box H rfl rfl rfl rfl rfl rfl ?_
  intro b1 w1 hb1 H
  refine tr_box H rfl rfl rfl rfl rfl rfl ?_
  intro b2 w2 hb2 H
  refine tr_val (ov_assign rfl rfl) rfl rfl rfl ?_
  refine tr_nil (hK1 _ _ (TrC.keep [6, 4, 3, 2] ?_))
  show TrC _ _ _ _ [(6, _), (4, _), (3, _), (2, _)] _ _
  refine tr_seq (fun K2 hK2 => ?_)
  refine tr_seq (fun K3 hK3 => ?_)
  -- region 1: law.go:160
  refine tr_region ?_
  refine tr_val (ov_load_blkN H.get1 rfl (Try.isAgg78 _) (Try.sizeOf78 _) rfl rfl rfl) rfl rfl rfl ?_
  refine tr_call (light_c B c X now last _) rfl rfl rfl Try.call34 rfl rfl rfl ?_
  rintro _ w3 ⟨rfl, HC⟩
  have H := H.call0n HC
  refine tr_val (ov_not rfl rfl) rfl rfl rfl ?_
  refine tr_val (ov_move rfl rfl) rfl rfl rfl ?_
  refine tr_split (t := 19) rfl (fun s19 => ?_) (fun s19 => ?_)
  · skip
    refine tr_pass rfl rfl rfl ?_
    refine tr_pass rfl rfl rfl ?_
    refine tr_pass rfl rfl rfl ?_
    refine tr_val (ov_pick (vb := undef) rfl rfl rfl rfl) rfl rfl rfl ?_
    refine tr_val (ov_move rfl rfl) rfl rfl rfl ?_
    refine tr_pass rfl rfl rfl ?_
    refine tr_pass rfl rfl rfl ?_
    refine tr_pass rfl rfl rfl ?_
    refine tr_val (ov_pick (vb := undef) rfl rfl rfl rfl) rfl rfl rfl ?_
    refine tr_nil (hK3 _ _ (TrC.keep [28, 6, 4, 3, 2] ?_))
    show TrC _ _ _ _ [(28, _), (6, _), (4, _), (3, _), (2, _)] _ _
    refine tr_cond_t rfl rfl ?_
    refine tr_seq (fun K4 hK4 => ?_)
    -- region 2: law.go:161
    refine tr_region ?_
    refine tr_call (lives13_c _) rfl rfl rfl Try.call29 rfl rfl rfl ?_
    rintro _ w4 ⟨rfl, HC⟩
    have H := H.call0n HC
    refine tr_val (ov_assign rfl rfl) rfl rfl rfl ?_
    refine tr_nil (hK4 _ _ (TrC.keep [6, 28, 4, 3, 2] ?_))
    show TrC _ _ _ _ [(6, _), (28, _), (4, _), (3, _), (2, _)] _ _
    refine tr_ret (post_ret1 (.inr rfl) rfl rfl ?_)
    exact ⟨rfl, H.drop0.drop0⟩
  · skip
    refine tr_val (ov_load_blkN H.get0 rfl (Try.isAgg78 _) (Try.sizeOf78 _) rfl rfl rfl) rfl rfl rfl ?_
    refine tr_call (light_c B2 c2 Y now2 last2 _) rfl rfl rfl Try.call34 rfl rfl rfl ?_
    rintro _ w5 ⟨rfl, HC⟩
    have H := H.call0n HC
    refine tr_val (ov_not rfl rfl) rfl rfl rfl ?_
    refine tr_val (ov_pick_f (va := undef) rfl rfl rfl rfl) rfl rfl rfl ?_
    refine tr_val (ov_move rfl rfl) rfl rfl rfl ?_
    refine tr_split (t := 24) rfl (fun s24 => ?_) (fun s24 => ?_)
    · skip
      refine tr_pass rfl rfl rfl ?_
      refine tr_pass rfl rfl rfl ?_
      refine tr_pass rfl rfl rfl ?_
      refine tr_val (ov_pick (vb := undef) rfl rfl rfl rfl) rfl rfl rfl ?_
      refine tr_nil (hK3 _ _ (TrC.keep [28, 6, 4, 3, 2] ?_))
      show TrC _ _ _ _ [(28, _), (6, _), (4, _), (3, _), (2, _)] _ _
      refine tr_cond_t rfl rfl ?_
      refine tr_seq (fun K5 hK5 => ?_)
      -- region 2: law.go:161
      refine tr_region ?_
      refine tr_call (lives13_c _) rfl rfl rfl Try.call29 rfl rfl rfl ?_
      rintro _ w6 ⟨rfl, HC⟩
      have H := H.call0n HC
      refine tr_val (ov_assign rfl rfl) rfl rfl rfl ?_
      refine tr_nil (hK5 _ _ (TrC.keep [6, 28, 4, 3, 2] ?_))
      show TrC _ _ _ _ [(6, _), (28, _), (4, _), (3, _), (2, _)] _ _
      refine tr_ret (post_ret1 (.inr rfl) rfl rfl ?_)
      exact ⟨rfl, H.drop0.drop0⟩
    · skip
      refine tr_val (ov_move rfl rfl) rfl rfl rfl ?_
      refine tr_val (ov_len rfl rfl Try.underlying98 rfl) rfl rfl rfl ?_
      refine tr_val (ov_gtr rfl rfl rfl) rfl rfl rfl ?_
      refine tr_val (ov_pick_f (va := undef) rfl rfl rfl rfl) rfl rfl rfl ?_
      refine tr_nil (hK3 _ _ (TrC.keep [28, 6, 4, 3, 2] ?_))
      show TrC _ _ _ _ [(28, _), (6, _), (4, _), (3, _), (2, _)] _ _
      refine tr_cond rfl (fun c28 => ?_) (fun c28 => ?_)
      · skip
        refine tr_seq (fun K6 hK6 => ?_)
        -- region 2: law.go:161
        refine tr_region ?_
        refine tr_call (lives13_c _) rfl rfl rfl Try.call29 rfl rfl rfl ?_
        rintro _ w7 ⟨rfl, HC⟩
        have H := H.call0n HC
        refine tr_val (ov_assign rfl rfl) rfl rfl rfl ?_
        refine tr_nil (hK6 _ _ (TrC.keep [6, 28, 4, 3, 2] ?_))
        show TrC _ _ _ _ [(6, _), (28, _), (4, _), (3, _), (2, _)] _ _
        refine tr_ret (post_ret1 (.inr rfl) rfl rfl ?_)
        exact ⟨rfl, H.drop0.drop0⟩
      · skip
        refine tr_skip (hK2 _ _ (TrC.keep [28, 6, 4, 3, 2] ?_))
        show TrC _ _ _ _ [(28, _), (6, _), (4, _), (3, _), (2, _)] _ _
        refine tr_seq (fun K7 hK7 => ?_)
        refine tr_seq (fun K8 hK8 => ?_)
        -- region 3: law.go:163
        refine tr_held_cut (fun w' => (blk b1 78 [.int .i64 now, .int .u64 last, .slice B (X).length c]).holds w' ∧ (blk b2 78 [.int .i64 now2, .int .u64 last2, .slice B2 (Y).length c2]).holds w') [28, 6, 4, 3, 2] [(52, .bool false)] (fun w' => SH w noBlocks [blk b2 78 [.int .i64 now2, .int .u64 last2, .slice B2 (Y).length c2], blk b1 78 [.int .i64 now, .int .u64 last, .slice B (X).length c]] w') mixed rfl H (fun w8 H K9 hK9 => ?_) (fun w8 H => ?_)
        · skip
          refine th_take 0 rfl (by kernel_rfl) (by kernel_rfl) (by kernel_rfl) (⟨(H.hold _ (by simp)), (H.hold _ (by simp))⟩) (fun _ hS => ov_load_blkN hS.1 rfl (Try.isAgg78 _) (Try.sizeOf78 _) rfl rfl rfl) rfl rfl rfl ?_
          refine th_take 2 rfl (by kernel_rfl) (by kernel_rfl) (by kernel_rfl) (⟨(H.hold _ (by simp)), (H.hold _ (by simp))⟩) (fun _ hS => ov_load_blkN hS.1 rfl (Try.isAgg78 _) (Try.sizeOf78 _) rfl rfl rfl) rfl rfl rfl ?_
          refine th_one 1 (by kernel_rfl) ?_
          refine tw_call (Sound_c B c X now last _ (H.rd0 hR) (by omega)) rfl rfl rfl rfl Try.call42 rfl rfl rfl ?_
          rintro _ w9 ⟨rfl, HC⟩
          have H := H.call0n HC
          refine ⟨⟨(H.hold _ (by simp)), (H.hold _ (by simp))⟩, ?_⟩
          refine th_one 3 (by kernel_rfl) ?_
          refine tw_call (Plain13_c B c X now last _ (H.rd0 hR) (by omega)) rfl rfl rfl rfl Try.call36 rfl rfl rfl ?_
          rintro _ w10 ⟨A5, c5, rfl, HC⟩
          have H := H.call0r HC
          refine ⟨⟨(H.hold _ (by simp)), (H.hold _ (by simp))⟩, ?_⟩
          refine th_one 4 (by kernel_rfl) ?_
          refine tw_call (SoundR_c A5 c5 (zR X) now last _ (vec_rd (show (vec A5 c5 59 4 encRThing (zR X)).holds _ from (H.hold _ (by simp))) lenRThing (by decide)) (by rw [zR_len]; omega)) rfl rfl rfl rfl Try.call37 rfl rfl rfl ?_
          rintro _ w11 ⟨rfl, HC⟩
          have H := H.call0n HC
          rw [zR_plain]
          refine ⟨⟨(H.hold _ (by simp)), (H.hold _ (by simp))⟩, ?_⟩
          refine th_take 5 rfl (by kernel_rfl) (by kernel_rfl) (by kernel_rfl) (⟨(H.hold _ (by simp)), (H.hold _ (by simp))⟩) (fun _ hS => ov_neqb rfl Try.underlying4 rfl rfl) rfl rfl rfl ?_
          refine th_take 6 rfl (by kernel_rfl) (by kernel_rfl) (by kernel_rfl) (⟨(H.hold _ (by simp)), (H.hold _ (by simp))⟩) (fun _ hS => ov_move rfl rfl) rfl rfl rfl ?_
          refine th_splitb (t := 36) rfl (fun s36 => ?_) (fun s36 => ?_)
          · exact absurd s36 (by simp)
          · skip
            refine th_take 7 rfl (by kernel_rfl) (by kernel_rfl) (by kernel_rfl) (⟨(H.hold _ (by simp)), (H.hold _ (by simp))⟩) (fun _ hS => ov_load_blkN hS.1 rfl (Try.isAgg78 _) (Try.sizeOf78 _) rfl rfl rfl) rfl rfl rfl ?_
            refine th_take 8 rfl (by kernel_rfl) (by kernel_rfl) (by kernel_rfl) (⟨(H.hold _ (by simp)), (H.hold _ (by simp))⟩) (fun _ hS => ov_load_blkN hS.2 rfl (Try.isAgg78 _) (Try.sizeOf78 _) rfl rfl rfl) rfl rfl rfl ?_
            refine th_take 10 rfl (by kernel_rfl) (by kernel_rfl) (by kernel_rfl) (⟨(H.hold _ (by simp)), (H.hold _ (by simp))⟩) (fun _ hS => ov_load_blkN hS.1 rfl (Try.isAgg78 _) (Try.sizeOf78 _) rfl rfl rfl) rfl rfl rfl ?_
            refine th_take 12 rfl (by kernel_rfl) (by kernel_rfl) (by kernel_rfl) (⟨(H.hold _ (by simp)), (H.hold _ (by simp))⟩) (fun _ hS => ov_load_blkN hS.2 rfl (Try.isAgg78 _) (Try.sizeOf78 _) rfl rfl rfl) rfl rfl rfl ?_
            refine th_one 9 (by kernel_rfl) ?_
            refine tw_call (SameD_c B c X B2 c2 Y _ (H.rd0 hR) (H.rd0 hR2) (by omega) now last now2 last2) rfl rfl rfl rfl Try.call43 rfl rfl rfl ?_
            rintro _ w12 ⟨rfl, HC⟩
            have H := H.call0n HC
            refine ⟨⟨(H.hold _ (by simp)), (H.hold _ (by simp))⟩, ?_⟩
            refine th_one 11 (by kernel_rfl) ?_
            refine tw_call (Plain13_c B c X now last _ (H.rd0 hR) (by omega)) rfl rfl rfl rfl Try.call36 rfl rfl rfl ?_
            rintro _ w13 ⟨A6, c6, rfl, HC⟩
            have H := H.call0r HC
            refine ⟨⟨(H.hold _ (by simp)), (H.hold _ (by simp))⟩, ?_⟩
            refine th_one 13 (by kernel_rfl) ?_
            refine tw_call (Plain13_c B2 c2 Y now2 last2 _ (H.rd0 hR2) (by omega)) rfl rfl rfl rfl Try.call36 rfl rfl rfl ?_
            rintro _ w14 ⟨A7, c7, rfl, HC⟩
            have H := H.call0r HC
            refine ⟨⟨(H.hold _ (by simp)), (H.hold _ (by simp))⟩, ?_⟩
            refine th_one 14 (by kernel_rfl) ?_
            refine tw_call (Same13_c A6 c6 (zR X) now last A7 c7 (zR Y) now2 last2 _ (vec_rd (show (vec A6 c6 59 4 encRThing (zR X)).holds _ from (H.hold _ (by simp))) lenRThing (by decide)) (vec_rd (show (vec A7 c7 59 4 encRThing (zR Y)).holds _ from (H.hold _ (by simp))) lenRThing (by decide)) (by rw [zR_len]; omega)) rfl rfl rfl rfl Try.call39 rfl rfl rfl ?_
            rintro _ w15 ⟨rfl, HC⟩
            have H := H.call0n HC
            refine ⟨⟨(H.hold _ (by simp)), (H.hold _ (by simp))⟩, ?_⟩
            refine th_take 15 rfl (by kernel_rfl) (by kernel_rfl) (by kernel_rfl) (⟨(H.hold _ (by simp)), (H.hold _ (by simp))⟩) (fun _ hS => ov_neqb rfl Try.underlying4 rfl rfl) rfl rfl rfl ?_
            refine th_take 16 rfl (by kernel_rfl) (by kernel_rfl) (by kernel_rfl) (⟨(H.hold _ (by simp)), (H.hold _ (by simp))⟩) (fun _ hS => ov_pick_f (va := undef) rfl rfl rfl rfl) rfl rfl rfl ?_
            refine th_take 17 rfl (by kernel_rfl) (by kernel_rfl) (by kernel_rfl) (⟨(H.hold _ (by simp)), (H.hold _ (by simp))⟩) (fun _ hS => ov_move rfl rfl) rfl rfl rfl ?_
            refine th_splitb (t := 47) rfl (fun s47 => ?_) (fun s47 => ?_)
            · exact absurd s47 (by rw [same_z]; simp)
            · skip
              refine th_take 18 rfl (by kernel_rfl) (by kernel_rfl) (by kernel_rfl) (⟨(H.hold _ (by simp)), (H.hold _ (by simp))⟩) (fun _ hS => ov_load_blkN hS.1 rfl (Try.isAgg78 _) (Try.sizeOf78 _) rfl rfl rfl) rfl rfl rfl ?_
              refine th_take 19 rfl (by kernel_rfl) (by kernel_rfl) (by kernel_rfl) (⟨(H.hold _ (by simp)), (H.hold _ (by simp))⟩) (fun _ hS => ov_load_blkN hS.1 rfl (Try.isAgg78 _) (Try.sizeOf78 _) rfl rfl rfl) rfl rfl rfl ?_
              refine th_one 20 (by kernel_rfl) ?_
              refine tw_call (SameD_c B c X B c X _ (H.rd0 hR) (H.rd0 hR) (by omega) now last now last) rfl rfl rfl rfl Try.call43 rfl rfl rfl ?_
              rintro _ w16 ⟨rfl, HC⟩
              have H := H.call0n HC
              refine ⟨⟨(H.hold _ (by simp)), (H.hold _ (by simp))⟩, ?_⟩
              refine th_take 21 rfl (by kernel_rfl) (by kernel_rfl) (by kernel_rfl) (⟨(H.hold _ (by simp)), (H.hold _ (by simp))⟩) (fun _ hS => ov_not rfl rfl) rfl rfl rfl ?_
              refine th_take 22 rfl (by kernel_rfl) (by kernel_rfl) (by kernel_rfl) (⟨(H.hold _ (by simp)), (H.hold _ (by simp))⟩) (fun _ hS => ov_pick_f (va := undef) rfl rfl rfl rfl) rfl rfl rfl ?_
              exact th_done (by kernel_rfl) (hK9 _ _ (Sub.consE rfl (congrArg Value.bool (decide_eq_false (fun h => h ⟨rfl, rfl, rfl⟩))) (Sub.cons rfl (Sub.cons rfl (Sub.cons rfl (Sub.cons rfl (Sub.cons rfl Sub.nil)))))) (H.drop0.drop0.drop0))
        · skip
          refine hK8 _ _ (TrC.keep [52, 28, 6, 4, 3, 2] ?_)
          show TrC _ _ _ _ [(52, _), (28, _), (6, _), (4, _), (3, _), (2, _)] _ _
          refine tr_condb rfl (fun c52 => ?_) (fun c52 => ?_)
          · cases c52
          · skip
            refine tr_skip (hK7 _ _ (TrC.keep [52, 28, 6, 4, 3, 2] ?_))
            show TrC _ _ _ _ [(52, _), (28, _), (6, _), (4, _), (3, _), (2, _)] _ _
            refine tr_seq_cut_ [52, 28, 4, 3, 2] [] (fun w' => SH w noBlocks [blk b2 78 [.int .i64 now2, .int .u64 last2, .slice B2 (Y).length c2], blk b1 78 [.int .i64 now, .int .u64 last, .slice B (X).length c]] w') (fun K10 hK10 => ?_) (fun w17 H => ?_)
            · skip
              refine tr_seq (fun K11 hK11 => ?_)
              -- region 5: law.go:166
              refine tr_region ?_
              refine tr_val (ov_load_blkN H.get1 rfl (Try.isAgg78 _) (Try.sizeOf78 _) rfl rfl rfl) rfl rfl rfl ?_
              refine tr_call (Sound_c B c X now last _ (H.rd0 hR) (by omega)) rfl rfl rfl Try.call42 rfl rfl rfl ?_
              rintro _ w18 ⟨rfl, HC⟩
              have H := H.call0n HC
              refine tr_nil (hK11 _ _ (TrC.keep [54, 52, 28, 6, 4, 3, 2] ?_))
              show TrC _ _ _ _ [(54, _), (52, _), (28, _), (6, _), (4, _), (3, _), (2, _)] _ _
              refine tr_condb rfl (fun c54 => ?_) (fun c54 => ?_)
              · skip
                refine tr_seq (fun K12 hK12 => ?_)
                -- region 6: law.go:167
                have hs : sndP now last X := sndB_true.mp c54
                have hsl := hs.2.2.1
                have hX' : ∀ t, t ∈ X → (0 ≤ t.id ∧ t.id ≤ 18446744073709551615) ∧ (0 ≤ t.gen ∧ t.gen ≤ 18446744073709551615) ∧ (0 ≤ t.due ∧ t.due ≤ 9223372036854775807) := fun t ht => (by have := hs.2.2.2.ok t ht; unfold okT at this; have := hs.2.1; exact ⟨hXr t ht, by omega, by omega⟩)
                obtain ⟨hpB, hpl⟩ := bytes_put hX' hsl hn h0
                obtain ⟨p1, p2, p3, p4⟩ := read_put hs h0.1 hXr
                refine tr_region ?_
                refine tr_alloc H rfl (Try.zeroValue101 _) rfl rfl rfl rfl ?_
                intro b7 w19 hb7 H
                refine tr_nil (hK12 _ _ (TrC.keep [7, 54, 52, 28, 6, 4, 3, 2] ?_))
                show TrC _ _ _ _ [(7, _), (54, _), (52, _), (28, _), (6, _), (4, _), (3, _), (2, _)] _ _
                refine tr_seq (fun K13 hK13 => ?_)
                -- region 7: law.go:168
                have H := (H.addNil (α := Int) 5 1 encU8).top1
                refine tr_region ?_
                refine tr_val (ov_load_blkN H.get3 rfl (Try.isAgg78 _) (Try.sizeOf78 _) rfl rfl rfl) rfl rfl rfl ?_
                refine tr_call (Put_c b7 none 0 B c X now last _ (H.own_ [_, _] (rs := [_, _])) (fun rs w' C => (SH.callP (pre := [_, _]) (rs := [_, _]) H C).rd0 hR) hX' hsl hn h0) rfl rfl rfl Try.call44 rfl rfl rfl ?_
                rintro _ w20 ⟨A3, c3, HC⟩
                have H := H.call2 HC
                refine tr_nil (hK13 _ _ (TrC.keep [7, 54, 52, 28, 6, 4, 3, 2] ?_))
                show TrC _ _ _ _ [(7, _), (54, _), (52, _), (28, _), (6, _), (4, _), (3, _), (2, _)] _ _
                refine tr_seq (fun K14 hK14 => ?_)
                -- region 8: law.go:169
                refine tr_region ?_
                refine tr_call (wBytes_c b7 A3 c3 (putB now last X) _ H.get0 H.get1 (by omega)) rfl rfl rfl Try.call47 rfl rfl rfl ?_
                rintro _ w21 ⟨A4, c4, rfl, HC⟩
                have H := H.call0r HC
                have hc4 := vec_len H.get0
                refine tr_call (qOpen_c A4 c4 (putB now last X) _) rfl rfl rfl Try.call46 rfl rfl rfl ?_
                rintro _ w22 ⟨r, rfl, hr0, HC⟩
                have H := H.call0r HC
                refine tr_call (qRead_c r A4 c4 (putB now last X) false _ (fun rs w' C => vec_rd ((H.call1e C).hold (vec A4 c4 5 1 encU8 (putB now last X)) (List.mem_append_right _ (List.mem_cons_self ..))) lenU8 (by decide)) hc4 hpB (by omega) H.get0) rfl rfl rfl Try.call45 rfl rfl rfl ?_
                rintro _ w23 ⟨Aq, cq, A8, c8, rfl, hsu, hc8, HC⟩
                have H := H.call1e HC
                rw [p1, p2, p3, p4]
                rw [p4] at H
                refine tr_val (ov_move rfl rfl) rfl rfl rfl ?_
                refine tr_val (ov_extract rfl rfl rfl) rfl rfl rfl ?_
                refine tr_val (ov_extract rfl rfl rfl) rfl rfl rfl ?_
                refine tr_alloc H rfl (Try.zeroValue78 _) rfl rfl rfl rfl ?_
                intro b8 w24 hb8 H
                (refine tr_storeW H.get0 rfl (Try.sizeOf78 _) rfl rfl rfl rfl rfl rfl rfl rfl ?_; intro w25 U; have H := H.upd0 U; clear U)
                refine tr_val (ov_assign rfl rfl) rfl rfl rfl ?_
                refine tr_nil (hK14 _ _ (TrC.keep [9, 8, 7, 54, 52, 28, 6, 4, 3, 2] ?_))
                show TrC _ _ _ _ [(9, _), (8, _), (7, _), (54, _), (52, _), (28, _), (6, _), (4, _), (3, _), (2, _)] _ _
                refine tr_seq (fun K15 hK15 => ?_)
                -- region 9: law.go:170
                refine tr_held_cut (fun w' => (blk b1 78 [.int .i64 now, .int .u64 last, .slice B (X).length c]).holds w' ∧ (blk b8 78 [.int .i64 now, .int .u64 last, .slice Aq (X).length cq]).holds w') [9, 8, 7, 54, 52, 28, 6, 4, 3, 2] [(81, .bool false)] (fun w' => SH w noBlocks [blk b2 78 [.int .i64 now2, .int .u64 last2, .slice B2 (Y).length c2], blk b1 78 [.int .i64 now, .int .u64 last, .slice B (X).length c]] w') mixed rfl H (fun w26 H K16 hK16 => ?_) (fun w26 H => ?_)
                · skip
                  refine th_take 2 rfl (by kernel_rfl) (by kernel_rfl) (by kernel_rfl) (⟨(H.hold _ (by simp)), (H.hold _ (by simp))⟩) (fun _ hS => ov_load_blkN hS.1 rfl (Try.isAgg78 _) (Try.sizeOf78 _) rfl rfl rfl) rfl rfl rfl ?_
                  refine th_one 0 (by kernel_rfl) ?_
                  refine tw_call (wBytes_c b7 A3 c3 (putB now last X) _ (H.hold _ (by simp)) (H.hold _ (by simp)) (by omega)) rfl rfl rfl rfl Try.call47 rfl rfl rfl ?_
                  rintro _ w27 ⟨A9, c9, rfl, HC⟩
                  have H := H.call0r HC
                  refine ⟨⟨(H.hold _ (by simp)), (H.hold _ (by simp))⟩, ?_⟩
                  refine th_two 1 3 (by kernel_rfl) ?_ ?_
                  · skip
                    refine tw_val (ov_str (vec_rd (show (vec A9 c9 5 1 encU8 (putB now last X)).holds _ from (H.hold _ (by simp))) lenU8 (by decide)) hpB rfl Try.underlying98 Try.underlying5 Try.underlying9 rfl) rfl (⟨(H.hold _ (by simp)), (H.hold _ (by simp))⟩) rfl rfl rfl ?_
                    refine th_one 3 (by kernel_rfl) ?_
                    refine tw_call (Plain13_c B c X now last _ (H.rd0 hR) (by omega)) rfl rfl rfl rfl Try.call36 rfl rfl rfl ?_
                    rintro _ w28 ⟨A10, c10, rfl, HC⟩
                    have H := H.call0r HC
                    refine ⟨⟨(H.hold _ (by simp)), (H.hold _ (by simp))⟩, ?_⟩
                    refine th_one 4 (by kernel_rfl) ?_
                    refine tw_call (rPut_c A10 c10 X now last _ (vec_rd (show (vec A10 c10 59 4 encRThing (zR X)).holds _ from (H.hold _ (by simp))) lenRThing (by decide)) hX' hsl hn h0) rfl rfl rfl rfl Try.call48 rfl rfl rfl ?_
                    rintro _ w29 ⟨A11, c11, rfl, HC⟩
                    have H := H.call0r HC
                    refine ⟨⟨(H.hold _ (by simp)), (H.hold _ (by simp))⟩, ?_⟩
                    refine th_one 5 (by kernel_rfl) ?_
                    refine tw_val (ov_str (vec_rd (show (vec A11 c11 5 1 encU8 (putB now last X)).holds _ from (H.hold _ (by simp))) lenU8 (by decide)) hpB rfl Try.underlying98 Try.underlying5 Try.underlying9 rfl) rfl (⟨(H.hold _ (by simp)), (H.hold _ (by simp))⟩) rfl rfl rfl ?_
                    refine th_take 6 rfl (by kernel_rfl) (by kernel_rfl) (by kernel_rfl) (⟨(H.hold _ (by simp)), (H.hold _ (by simp))⟩) (fun _ hS => ov_nestr rfl Try.underlying9 rfl rfl) rfl rfl rfl ?_
                    refine th_take 7 rfl (by kernel_rfl) (by kernel_rfl) (by kernel_rfl) (⟨(H.hold _ (by simp)), (H.hold _ (by simp))⟩) (fun _ hS => ov_move rfl rfl) rfl rfl rfl ?_
                    refine th_splitb (t := 70) rfl (fun s70 => ?_) (fun s70 => ?_)
                    · cases s70
                    · skip
                      refine th_take 8 rfl (by kernel_rfl) (by kernel_rfl) (by kernel_rfl) (⟨(H.hold _ (by simp)), (H.hold _ (by simp))⟩) (fun _ hS => ov_move rfl rfl) rfl rfl rfl ?_
                      refine th_take 9 rfl (by kernel_rfl) (by kernel_rfl) (by kernel_rfl) (⟨(H.hold _ (by simp)), (H.hold _ (by simp))⟩) (fun _ hS => ov_notb rfl rfl) rfl rfl rfl ?_
                      refine th_take 10 rfl (by kernel_rfl) (by kernel_rfl) (by kernel_rfl) (⟨(H.hold _ (by simp)), (H.hold _ (by simp))⟩) (fun _ hS => ov_pick_f (va := undef) rfl rfl rfl rfl) rfl rfl rfl ?_
                      refine th_take 11 rfl (by kernel_rfl) (by kernel_rfl) (by kernel_rfl) (⟨(H.hold _ (by simp)), (H.hold _ (by simp))⟩) (fun _ hS => ov_move rfl rfl) rfl rfl rfl ?_
                      refine th_splitb (t := 74) rfl (fun s74 => ?_) (fun s74 => ?_)
                      · cases s74
                      · skip
                        refine th_take 12 rfl (by kernel_rfl) (by kernel_rfl) (by kernel_rfl) (⟨(H.hold _ (by simp)), (H.hold _ (by simp))⟩) (fun _ hS => ov_load_blkN hS.2 rfl (Try.isAgg78 _) (Try.sizeOf78 _) rfl rfl rfl) rfl rfl rfl ?_
                        refine th_take 14 rfl (by kernel_rfl) (by kernel_rfl) (by kernel_rfl) (⟨(H.hold _ (by simp)), (H.hold _ (by simp))⟩) (fun _ hS => ov_load_blkN hS.1 rfl (Try.isAgg78 _) (Try.sizeOf78 _) rfl rfl rfl) rfl rfl rfl ?_
                        refine th_one 13 (by kernel_rfl) ?_
                        refine tw_call (Plain13_c Aq cq X now last _ (vec_rd (show (vec Aq cq 30 3 encThing X).holds _ from (H.hold _ (by simp))) lenThing (by decide)) (by omega)) rfl rfl rfl rfl Try.call36 rfl rfl rfl ?_
                        rintro _ w30 ⟨A12, c12, rfl, HC⟩
                        have H := H.call0r HC
                        refine ⟨⟨(H.hold _ (by simp)), (H.hold _ (by simp))⟩, ?_⟩
                        refine th_one 15 (by kernel_rfl) ?_
                        refine tw_call (Plain13_c B c X now last _ (H.rd0 hR) (by omega)) rfl rfl rfl rfl Try.call36 rfl rfl rfl ?_
                        rintro _ w31 ⟨A13, c13, rfl, HC⟩
                        have H := H.call0r HC
                        refine ⟨⟨(H.hold _ (by simp)), (H.hold _ (by simp))⟩, ?_⟩
                        refine th_one 16 (by kernel_rfl) ?_
                        refine tw_call (Same13_c A12 c12 (zR X) now last A13 c13 (zR X) now last _ (vec_rd (show (vec A12 c12 59 4 encRThing (zR X)).holds _ from (H.hold _ (by simp))) lenRThing (by decide)) (vec_rd (show (vec A13 c13 59 4 encRThing (zR X)).holds _ from (H.hold _ (by simp))) lenRThing (by decide)) (by rw [zR_len]; omega)) rfl rfl rfl rfl Try.call39 rfl rfl rfl ?_
                        rintro _ w32 ⟨rfl, HC⟩
                        have H := H.call0n HC
                        refine ⟨⟨(H.hold _ (by simp)), (H.hold _ (by simp))⟩, ?_⟩
                        refine th_take 17 rfl (by kernel_rfl) (by kernel_rfl) (by kernel_rfl) (⟨(H.hold _ (by simp)), (H.hold _ (by simp))⟩) (fun _ hS => ov_not rfl rfl) rfl rfl rfl ?_
                        refine th_take 18 rfl (by kernel_rfl) (by kernel_rfl) (by kernel_rfl) (⟨(H.hold _ (by simp)), (H.hold _ (by simp))⟩) (fun _ hS => ov_pick_f (va := undef) rfl rfl rfl rfl) rfl rfl rfl ?_
                        exact th_done (by kernel_rfl) (hK16 _ _ (Sub.consE rfl (congrArg Value.bool (decide_eq_false (fun h => h ⟨rfl, rfl, rfl⟩))) (Sub.cons rfl (Sub.cons rfl (Sub.cons rfl (Sub.cons rfl (Sub.cons rfl (Sub.cons rfl (Sub.cons rfl (Sub.cons rfl (Sub.cons rfl (Sub.cons rfl Sub.nil))))))))))) (H.drop0.drop0.drop0.drop0.drop0.drop0.drop0.drop0.drop0.drop0.drop0))
                  · skip
                    refine tw_call (Plain13_c B c X now last _ (H.rd0 hR) (by omega)) rfl rfl rfl rfl Try.call36 rfl rfl rfl ?_
                    rintro _ w33 ⟨A10, c10, rfl, HC⟩
                    have H := H.call0r HC
                    refine ⟨⟨(H.hold _ (by simp)), (H.hold _ (by simp))⟩, ?_⟩
                    refine th_two 1 4 (by kernel_rfl) ?_ ?_
                    · skip
                      refine tw_val (ov_str (vec_rd (show (vec A9 c9 5 1 encU8 (putB now last X)).holds _ from (H.hold _ (by simp))) lenU8 (by decide)) hpB rfl Try.underlying98 Try.underlying5 Try.underlying9 rfl) rfl (⟨(H.hold _ (by simp)), (H.hold _ (by simp))⟩) rfl rfl rfl ?_
                      refine th_one 4 (by kernel_rfl) ?_
                      refine tw_call (rPut_c A10 c10 X now last _ (vec_rd (show (vec A10 c10 59 4 encRThing (zR X)).holds _ from (H.hold _ (by simp))) lenRThing (by decide)) hX' hsl hn h0) rfl rfl rfl rfl Try.call48 rfl rfl rfl ?_
                      rintro _ w34 ⟨A11, c11, rfl, HC⟩
                      have H := H.call0r HC
                      refine ⟨⟨(H.hold _ (by simp)), (H.hold _ (by simp))⟩, ?_⟩
                      refine th_one 5 (by kernel_rfl) ?_
                      refine tw_val (ov_str (vec_rd (show (vec A11 c11 5 1 encU8 (putB now last X)).holds _ from (H.hold _ (by simp))) lenU8 (by decide)) hpB rfl Try.underlying98 Try.underlying5 Try.underlying9 rfl) rfl (⟨(H.hold _ (by simp)), (H.hold _ (by simp))⟩) rfl rfl rfl ?_
                      refine th_take 6 rfl (by kernel_rfl) (by kernel_rfl) (by kernel_rfl) (⟨(H.hold _ (by simp)), (H.hold _ (by simp))⟩) (fun _ hS => ov_nestr rfl Try.underlying9 rfl rfl) rfl rfl rfl ?_
                      refine th_take 7 rfl (by kernel_rfl) (by kernel_rfl) (by kernel_rfl) (⟨(H.hold _ (by simp)), (H.hold _ (by simp))⟩) (fun _ hS => ov_move rfl rfl) rfl rfl rfl ?_
                      refine th_splitb (t := 70) rfl (fun s70 => ?_) (fun s70 => ?_)
                      · cases s70
                      · skip
                        refine th_take 8 rfl (by kernel_rfl) (by kernel_rfl) (by kernel_rfl) (⟨(H.hold _ (by simp)), (H.hold _ (by simp))⟩) (fun _ hS => ov_move rfl rfl) rfl rfl rfl ?_
                        refine th_take 9 rfl (by kernel_rfl) (by kernel_rfl) (by kernel_rfl) (⟨(H.hold _ (by simp)), (H.hold _ (by simp))⟩) (fun _ hS => ov_notb rfl rfl) rfl rfl rfl ?_
                        refine th_take 10 rfl (by kernel_rfl) (by kernel_rfl) (by kernel_rfl) (⟨(H.hold _ (by simp)), (H.hold _ (by simp))⟩) (fun _ hS => ov_pick_f (va := undef) rfl rfl rfl rfl) rfl rfl rfl ?_
                        refine th_take 11 rfl (by kernel_rfl) (by kernel_rfl) (by kernel_rfl) (⟨(H.hold _ (by simp)), (H.hold _ (by simp))⟩) (fun _ hS => ov_move rfl rfl) rfl rfl rfl ?_
                        refine th_splitb (t := 74) rfl (fun s74 => ?_) (fun s74 => ?_)
                        · cases s74
                        · skip
                          refine th_take 12 rfl (by kernel_rfl) (by kernel_rfl) (by kernel_rfl) (⟨(H.hold _ (by simp)), (H.hold _ (by simp))⟩) (fun _ hS => ov_load_blkN hS.2 rfl (Try.isAgg78 _) (Try.sizeOf78 _) rfl rfl rfl) rfl rfl rfl ?_
                          refine th_take 14 rfl (by kernel_rfl) (by kernel_rfl) (by kernel_rfl) (⟨(H.hold _ (by simp)), (H.hold _ (by simp))⟩) (fun _ hS => ov_load_blkN hS.1 rfl (Try.isAgg78 _) (Try.sizeOf78 _) rfl rfl rfl) rfl rfl rfl ?_
                          refine th_one 13 (by kernel_rfl) ?_
                          refine tw_call (Plain13_c Aq cq X now last _ (vec_rd (show (vec Aq cq 30 3 encThing X).holds _ from (H.hold _ (by simp))) lenThing (by decide)) (by omega)) rfl rfl rfl rfl Try.call36 rfl rfl rfl ?_
                          rintro _ w35 ⟨A12, c12, rfl, HC⟩
                          have H := H.call0r HC
                          refine ⟨⟨(H.hold _ (by simp)), (H.hold _ (by simp))⟩, ?_⟩
                          refine th_one 15 (by kernel_rfl) ?_
                          refine tw_call (Plain13_c B c X now last _ (H.rd0 hR) (by omega)) rfl rfl rfl rfl Try.call36 rfl rfl rfl ?_
                          rintro _ w36 ⟨A13, c13, rfl, HC⟩
                          have H := H.call0r HC
                          refine ⟨⟨(H.hold _ (by simp)), (H.hold _ (by simp))⟩, ?_⟩
                          refine th_one 16 (by kernel_rfl) ?_
                          refine tw_call (Same13_c A12 c12 (zR X) now last A13 c13 (zR X) now last _ (vec_rd (show (vec A12 c12 59 4 encRThing (zR X)).holds _ from (H.hold _ (by simp))) lenRThing (by decide)) (vec_rd (show (vec A13 c13 59 4 encRThing (zR X)).holds _ from (H.hold _ (by simp))) lenRThing (by decide)) (by rw [zR_len]; omega)) rfl rfl rfl rfl Try.call39 rfl rfl rfl ?_
                          rintro _ w37 ⟨rfl, HC⟩
                          have H := H.call0n HC
                          refine ⟨⟨(H.hold _ (by simp)), (H.hold _ (by simp))⟩, ?_⟩
                          refine th_take 17 rfl (by kernel_rfl) (by kernel_rfl) (by kernel_rfl) (⟨(H.hold _ (by simp)), (H.hold _ (by simp))⟩) (fun _ hS => ov_not rfl rfl) rfl rfl rfl ?_
                          refine th_take 18 rfl (by kernel_rfl) (by kernel_rfl) (by kernel_rfl) (⟨(H.hold _ (by simp)), (H.hold _ (by simp))⟩) (fun _ hS => ov_pick_f (va := undef) rfl rfl rfl rfl) rfl rfl rfl ?_
                          exact th_done (by kernel_rfl) (hK16 _ _ (Sub.consE rfl (congrArg Value.bool (decide_eq_false (fun h => h ⟨rfl, rfl, rfl⟩))) (Sub.cons rfl (Sub.cons rfl (Sub.cons rfl (Sub.cons rfl (Sub.cons rfl (Sub.cons rfl (Sub.cons rfl (Sub.cons rfl (Sub.cons rfl (Sub.cons rfl Sub.nil))))))))))) (H.drop0.drop0.drop0.drop0.drop0.drop0.drop0.drop0.drop0.drop0.drop0))
                    · skip
                      refine tw_call (rPut_c A10 c10 X now last _ (vec_rd (show (vec A10 c10 59 4 encRThing (zR X)).holds _ from (H.hold _ (by simp))) lenRThing (by decide)) hX' hsl hn h0) rfl rfl rfl rfl Try.call48 rfl rfl rfl ?_
                      rintro _ w38 ⟨A11, c11, rfl, HC⟩
                      have H := H.call0r HC
                      refine ⟨⟨(H.hold _ (by simp)), (H.hold _ (by simp))⟩, ?_⟩
                      refine th_two 1 5 (by kernel_rfl) ?_ ?_
                      · skip
                        refine tw_val (ov_str (vec_rd (show (vec A9 c9 5 1 encU8 (putB now last X)).holds _ from (H.hold _ (by simp))) lenU8 (by decide)) hpB rfl Try.underlying98 Try.underlying5 Try.underlying9 rfl) rfl (⟨(H.hold _ (by simp)), (H.hold _ (by simp))⟩) rfl rfl rfl ?_
                        refine th_one 5 (by kernel_rfl) ?_
                        refine tw_val (ov_str (vec_rd (show (vec A11 c11 5 1 encU8 (putB now last X)).holds _ from (H.hold _ (by simp))) lenU8 (by decide)) hpB rfl Try.underlying98 Try.underlying5 Try.underlying9 rfl) rfl (⟨(H.hold _ (by simp)), (H.hold _ (by simp))⟩) rfl rfl rfl ?_
                        refine th_take 6 rfl (by kernel_rfl) (by kernel_rfl) (by kernel_rfl) (⟨(H.hold _ (by simp)), (H.hold _ (by simp))⟩) (fun _ hS => ov_nestr rfl Try.underlying9 rfl rfl) rfl rfl rfl ?_
                        refine th_take 7 rfl (by kernel_rfl) (by kernel_rfl) (by kernel_rfl) (⟨(H.hold _ (by simp)), (H.hold _ (by simp))⟩) (fun _ hS => ov_move rfl rfl) rfl rfl rfl ?_
                        refine th_splitb (t := 70) rfl (fun s70 => ?_) (fun s70 => ?_)
                        · cases s70
                        · skip
                          refine th_take 8 rfl (by kernel_rfl) (by kernel_rfl) (by kernel_rfl) (⟨(H.hold _ (by simp)), (H.hold _ (by simp))⟩) (fun _ hS => ov_move rfl rfl) rfl rfl rfl ?_
                          refine th_take 9 rfl (by kernel_rfl) (by kernel_rfl) (by kernel_rfl) (⟨(H.hold _ (by simp)), (H.hold _ (by simp))⟩) (fun _ hS => ov_notb rfl rfl) rfl rfl rfl ?_
                          refine th_take 10 rfl (by kernel_rfl) (by kernel_rfl) (by kernel_rfl) (⟨(H.hold _ (by simp)), (H.hold _ (by simp))⟩) (fun _ hS => ov_pick_f (va := undef) rfl rfl rfl rfl) rfl rfl rfl ?_
                          refine th_take 11 rfl (by kernel_rfl) (by kernel_rfl) (by kernel_rfl) (⟨(H.hold _ (by simp)), (H.hold _ (by simp))⟩) (fun _ hS => ov_move rfl rfl) rfl rfl rfl ?_
                          refine th_splitb (t := 74) rfl (fun s74 => ?_) (fun s74 => ?_)
                          · cases s74
                          · skip
                            refine th_take 12 rfl (by kernel_rfl) (by kernel_rfl) (by kernel_rfl) (⟨(H.hold _ (by simp)), (H.hold _ (by simp))⟩) (fun _ hS => ov_load_blkN hS.2 rfl (Try.isAgg78 _) (Try.sizeOf78 _) rfl rfl rfl) rfl rfl rfl ?_
                            refine th_take 14 rfl (by kernel_rfl) (by kernel_rfl) (by kernel_rfl) (⟨(H.hold _ (by simp)), (H.hold _ (by simp))⟩) (fun _ hS => ov_load_blkN hS.1 rfl (Try.isAgg78 _) (Try.sizeOf78 _) rfl rfl rfl) rfl rfl rfl ?_
                            refine th_one 13 (by kernel_rfl) ?_
                            refine tw_call (Plain13_c Aq cq X now last _ (vec_rd (show (vec Aq cq 30 3 encThing X).holds _ from (H.hold _ (by simp))) lenThing (by decide)) (by omega)) rfl rfl rfl rfl Try.call36 rfl rfl rfl ?_
                            rintro _ w39 ⟨A12, c12, rfl, HC⟩
                            have H := H.call0r HC
                            refine ⟨⟨(H.hold _ (by simp)), (H.hold _ (by simp))⟩, ?_⟩
                            refine th_one 15 (by kernel_rfl) ?_
                            refine tw_call (Plain13_c B c X now last _ (H.rd0 hR) (by omega)) rfl rfl rfl rfl Try.call36 rfl rfl rfl ?_
                            rintro _ w40 ⟨A13, c13, rfl, HC⟩
                            have H := H.call0r HC
                            refine ⟨⟨(H.hold _ (by simp)), (H.hold _ (by simp))⟩, ?_⟩
                            refine th_one 16 (by kernel_rfl) ?_
                            refine tw_call (Same13_c A12 c12 (zR X) now last A13 c13 (zR X) now last _ (vec_rd (show (vec A12 c12 59 4 encRThing (zR X)).holds _ from (H.hold _ (by simp))) lenRThing (by decide)) (vec_rd (show (vec A13 c13 59 4 encRThing (zR X)).holds _ from (H.hold _ (by simp))) lenRThing (by decide)) (by rw [zR_len]; omega)) rfl rfl rfl rfl Try.call39 rfl rfl rfl ?_
                            rintro _ w41 ⟨rfl, HC⟩
                            have H := H.call0n HC
                            refine ⟨⟨(H.hold _ (by simp)), (H.hold _ (by simp))⟩, ?_⟩
                            refine th_take 17 rfl (by kernel_rfl) (by kernel_rfl) (by kernel_rfl) (⟨(H.hold _ (by simp)), (H.hold _ (by simp))⟩) (fun _ hS => ov_not rfl rfl) rfl rfl rfl ?_
                            refine th_take 18 rfl (by kernel_rfl) (by kernel_rfl) (by kernel_rfl) (⟨(H.hold _ (by simp)), (H.hold _ (by simp))⟩) (fun _ hS => ov_pick_f (va := undef) rfl rfl rfl rfl) rfl rfl rfl ?_
                            exact th_done (by kernel_rfl) (hK16 _ _ (Sub.consE rfl (congrArg Value.bool (decide_eq_false (fun h => h ⟨rfl, rfl, rfl⟩))) (Sub.cons rfl (Sub.cons rfl (Sub.cons rfl (Sub.cons rfl (Sub.cons rfl (Sub.cons rfl (Sub.cons rfl (Sub.cons rfl (Sub.cons rfl (Sub.cons rfl Sub.nil))))))))))) (H.drop0.drop0.drop0.drop0.drop0.drop0.drop0.drop0.drop0.drop0.drop0))
                      · skip
                        refine tw_val (ov_str (vec_rd (show (vec A11 c11 5 1 encU8 (putB now last X)).holds _ from (H.hold _ (by simp))) lenU8 (by decide)) hpB rfl Try.underlying98 Try.underlying5 Try.underlying9 rfl) rfl (⟨(H.hold _ (by simp)), (H.hold _ (by simp))⟩) rfl rfl rfl ?_
                        refine th_one 1 (by kernel_rfl) ?_
                        refine tw_val (ov_str (vec_rd (show (vec A9 c9 5 1 encU8 (putB now last X)).holds _ from (H.hold _ (by simp))) lenU8 (by decide)) hpB rfl Try.underlying98 Try.underlying5 Try.underlying9 rfl) rfl (⟨(H.hold _ (by simp)), (H.hold _ (by simp))⟩) rfl rfl rfl ?_
                        refine th_take 6 rfl (by kernel_rfl) (by kernel_rfl) (by kernel_rfl) (⟨(H.hold _ (by simp)), (H.hold _ (by simp))⟩) (fun _ hS => ov_nestr rfl Try.underlying9 rfl rfl) rfl rfl rfl ?_
                        refine th_take 7 rfl (by kernel_rfl) (by kernel_rfl) (by kernel_rfl) (⟨(H.hold _ (by simp)), (H.hold _ (by simp))⟩) (fun _ hS => ov_move rfl rfl) rfl rfl rfl ?_
                        refine th_splitb (t := 70) rfl (fun s70 => ?_) (fun s70 => ?_)
                        · cases s70
                        · skip
                          refine th_take 8 rfl (by kernel_rfl) (by kernel_rfl) (by kernel_rfl) (⟨(H.hold _ (by simp)), (H.hold _ (by simp))⟩) (fun _ hS => ov_move rfl rfl) rfl rfl rfl ?_
                          refine th_take 9 rfl (by kernel_rfl) (by kernel_rfl) (by kernel_rfl) (⟨(H.hold _ (by simp)), (H.hold _ (by simp))⟩) (fun _ hS => ov_notb rfl rfl) rfl rfl rfl ?_
                          refine th_take 10 rfl (by kernel_rfl) (by kernel_rfl) (by kernel_rfl) (⟨(H.hold _ (by simp)), (H.hold _ (by simp))⟩) (fun _ hS => ov_pick_f (va := undef) rfl rfl rfl rfl) rfl rfl rfl ?_
                          refine th_take 11 rfl (by kernel_rfl) (by kernel_rfl) (by kernel_rfl) (⟨(H.hold _ (by simp)), (H.hold _ (by simp))⟩) (fun _ hS => ov_move rfl rfl) rfl rfl rfl ?_
                          refine th_splitb (t := 74) rfl (fun s74 => ?_) (fun s74 => ?_)
                          · cases s74
                          · skip
                            refine th_take 12 rfl (by kernel_rfl) (by kernel_rfl) (by kernel_rfl) (⟨(H.hold _ (by simp)), (H.hold _ (by simp))⟩) (fun _ hS => ov_load_blkN hS.2 rfl (Try.isAgg78 _) (Try.sizeOf78 _) rfl rfl rfl) rfl rfl rfl ?_
                            refine th_take 14 rfl (by kernel_rfl) (by kernel_rfl) (by kernel_rfl) (⟨(H.hold _ (by simp)), (H.hold _ (by simp))⟩) (fun _ hS => ov_load_blkN hS.1 rfl (Try.isAgg78 _) (Try.sizeOf78 _) rfl rfl rfl) rfl rfl rfl ?_
                            refine th_one 13 (by kernel_rfl) ?_
                            refine tw_call (Plain13_c Aq cq X now last _ (vec_rd (show (vec Aq cq 30 3 encThing X).holds _ from (H.hold _ (by simp))) lenThing (by decide)) (by omega)) rfl rfl rfl rfl Try.call36 rfl rfl rfl ?_
                            rintro _ w42 ⟨A12, c12, rfl, HC⟩
                            have H := H.call0r HC
                            refine ⟨⟨(H.hold _ (by simp)), (H.hold _ (by simp))⟩, ?_⟩
                            refine th_one 15 (by kernel_rfl) ?_
                            refine tw_call (Plain13_c B c X now last _ (H.rd0 hR) (by omega)) rfl rfl rfl rfl Try.call36 rfl rfl rfl ?_
                            rintro _ w43 ⟨A13, c13, rfl, HC⟩
                            have H := H.call0r HC
                            refine ⟨⟨(H.hold _ (by simp)), (H.hold _ (by simp))⟩, ?_⟩
                            refine th_one 16 (by kernel_rfl) ?_
                            refine tw_call (Same13_c A12 c12 (zR X) now last A13 c13 (zR X) now last _ (vec_rd (show (vec A12 c12 59 4 encRThing (zR X)).holds _ from (H.hold _ (by simp))) lenRThing (by decide)) (vec_rd (show (vec A13 c13 59 4 encRThing (zR X)).holds _ from (H.hold _ (by simp))) lenRThing (by decide)) (by rw [zR_len]; omega)) rfl rfl rfl rfl Try.call39 rfl rfl rfl ?_
                            rintro _ w44 ⟨rfl, HC⟩
                            have H := H.call0n HC
                            refine ⟨⟨(H.hold _ (by simp)), (H.hold _ (by simp))⟩, ?_⟩
                            refine th_take 17 rfl (by kernel_rfl) (by kernel_rfl) (by kernel_rfl) (⟨(H.hold _ (by simp)), (H.hold _ (by simp))⟩) (fun _ hS => ov_not rfl rfl) rfl rfl rfl ?_
                            refine th_take 18 rfl (by kernel_rfl) (by kernel_rfl) (by kernel_rfl) (⟨(H.hold _ (by simp)), (H.hold _ (by simp))⟩) (fun _ hS => ov_pick_f (va := undef) rfl rfl rfl rfl) rfl rfl rfl ?_
                            exact th_done (by kernel_rfl) (hK16 _ _ (Sub.consE rfl (congrArg Value.bool (decide_eq_false (fun h => h ⟨rfl, rfl, rfl⟩))) (Sub.cons rfl (Sub.cons rfl (Sub.cons rfl (Sub.cons rfl (Sub.cons rfl (Sub.cons rfl (Sub.cons rfl (Sub.cons rfl (Sub.cons rfl (Sub.cons rfl Sub.nil))))))))))) (H.drop0.drop0.drop0.drop0.drop0.drop0.drop0.drop0.drop0.drop0.drop0))
                · skip
                  refine hK15 _ _ (TrC.keep [81, 9, 8, 7, 54, 52, 28, 6, 4, 3, 2] ?_)
                  show TrC _ _ _ _ [(81, _), (9, _), (8, _), (7, _), (54, _), (52, _), (28, _), (6, _), (4, _), (3, _), (2, _)] _ _
                  refine tr_condb rfl (fun c81 => ?_) (fun c81 => ?_)
                  · cases c81
                  · skip
                    exact tr_skip (hK10 _ _ (Sub.cons rfl (Sub.cons rfl (Sub.cons rfl (Sub.cons rfl (Sub.cons rfl Sub.nil))))) (H))
              · skip
                exact tr_skip (hK10 _ _ (Sub.cons rfl (Sub.cons rfl (Sub.cons rfl (Sub.cons rfl (Sub.cons rfl Sub.nil))))) (H))
            · skip
              show TrC _ _ _ _ [(52, _), (28, _), (4, _), (3, _), (2, _)] _ _
              refine tr_seq (fun K17 hK17 => ?_)
              -- region 11: law.go:174
              refine tr_region ?_
              refine tr_val (ov_move rfl rfl) rfl rfl rfl ?_
              refine tr_call (qOpen_c Bb cb Lb _) rfl rfl rfl Try.call46 rfl rfl rfl ?_
              rintro _ w45 ⟨r, rfl, hr0, HC⟩
              have H := H.call0r HC
              refine tr_val (ov_move rfl rfl) rfl rfl rfl ?_
              refine tr_val (ov_build rfl (fun ρ k => bs1 k rfl) (bld112_0 _ _ _ _)) rfl rfl rfl ?_
              refine tr_box H rfl rfl rfl rfl rfl rfl ?_
              intro b12 w46 hb12 H
              refine tr_val (ov_assign rfl rfl) rfl rfl rfl ?_
              refine tr_val (ov_assign rfl rfl) rfl rfl rfl ?_
              refine tr_nil (hK17 _ _ (TrC.keep [11, 10, 52, 28, 4, 3, 2] ?_))
              show TrC _ _ _ _ [(11, _), (10, _), (52, _), (28, _), (4, _), (3, _), (2, _)] _ _
              refine tr_seq (fun K18 hK18 => ?_)
              -- region 12: law.go:175
              have hol := oX_len (s := ((Lb, false) : RS)) (m := 65536) ⟨hBb, by show Lb.length ≤ _; omega⟩
              refine tr_region ?_
              refine tr_val (ov_move rfl rfl) rfl rfl rfl ?_
              refine tr_call (qRead_c r Bb cb Lb false _ (fun rs w' C => (H.top1.call1e C).rd0 hRb) hcb hBb (by omega) H.get1) rfl rfl rfl Try.call45 rfl rfl rfl ?_
              rintro _ w47 ⟨Aq, cq, A8, c8, rfl, hsu, hc8, HC⟩
              have H := H.top1.call1e HC
              refine tr_val (ov_move rfl rfl) rfl rfl rfl ?_
              refine tr_val (ov_extract rfl rfl rfl) rfl rfl rfl ?_
              refine tr_val (ov_extract rfl rfl rfl) rfl rfl rfl ?_
              refine tr_alloc H rfl (Try.zeroValue78 _) rfl rfl rfl rfl ?_
              intro b13 w48 hb13 H
              (refine tr_storeW H.get0 rfl (Try.sizeOf78 _) rfl rfl rfl rfl rfl rfl rfl rfl ?_; intro w49 U; have H := H.upd0 U; clear U)
              refine tr_val (ov_assign rfl rfl) rfl rfl rfl ?_
              refine tr_nil (hK18 _ _ (TrC.keep [13, 12, 11, 10, 52, 28, 4, 3, 2] ?_))
              show TrC _ _ _ _ [(13, _), (12, _), (11, _), (10, _), (52, _), (28, _), (4, _), (3, _), (2, _)] _ _
              refine tr_seq (fun K19 hK19 => ?_)
              -- region 13: law.go:176
              refine tr_region ?_
              refine tr_val (ov_move rfl rfl) rfl rfl rfl ?_
              refine tr_call (rRead_c b12 Bb cb Lb false _ (fun rs w' C => (H.top3.call1e C).rd0 hRb) hcb hBb (by omega) H.get3) rfl rfl rfl Try.call49 rfl rfl rfl ?_
              rintro _ w50 ⟨Ar, cr, A9, c9, rfl, hsu2, hc9, HC⟩
              have H := H.top3.call1e HC
              refine tr_val (ov_move rfl rfl) rfl rfl rfl ?_
              refine tr_val (ov_extract rfl rfl rfl) rfl rfl rfl ?_
              refine tr_val (ov_extract rfl rfl rfl) rfl rfl rfl ?_
              refine tr_alloc H rfl (Try.zeroValue85 _) rfl rfl rfl rfl ?_
              intro b14 w51 hb14 H
              (refine tr_storeW H.get0 rfl (Try.sizeOf85 _) rfl rfl rfl rfl rfl rfl rfl rfl ?_; intro w52 U; have H := H.upd0 U; clear U)
              refine tr_val (ov_assign rfl rfl) rfl rfl rfl ?_
              refine tr_nil (hK19 _ _ (TrC.keep [15, 14, 13, 12, 11, 10, 52, 28, 4, 3, 2] ?_))
              show TrC _ _ _ _ [(15, _), (14, _), (13, _), (12, _), (11, _), (10, _), (52, _), (28, _), (4, _), (3, _), (2, _)] _ _
              refine tr_seq (fun K20 hK20 => ?_)
              -- region 14: law.go:177
              refine tr_held (fun w' => (blk b13 78 [.int .i64 (oNow ((Lb, false) : RS)), .int .u64 (oLast ((Lb, false) : RS)), .slice Aq ((oX ((Lb, false) : RS))).length cq]).holds w' ∧ (blk b14 85 [.int .i64 (oNow ((Lb, false) : RS)), .int .u64 (oLast ((Lb, false) : RS)), .slice Ar ((zR (oX ((Lb, false) : RS)))).length cr]).holds w' ∧ (blk b12 112 [.slice A9 (oS ((Lb, false) : RS)).1.length c9, .bool (oS ((Lb, false) : RS)).2]).holds w') mixed rfl H ?_
              intro w53 H
              refine th_take 0 rfl (by kernel_rfl) (by kernel_rfl) (by kernel_rfl) (⟨(H.hold _ (by simp)), (H.hold _ (by simp)), (H.hold _ (by simp))⟩) (fun _ hS => ov_move rfl rfl) rfl rfl rfl ?_
              refine th_take 1 rfl (by kernel_rfl) (by kernel_rfl) (by kernel_rfl) (⟨(H.hold _ (by simp)), (H.hold _ (by simp)), (H.hold _ (by simp))⟩) (fun _ hS => ov_move rfl rfl) rfl rfl rfl ?_
              refine th_take 2 rfl (by kernel_rfl) (by kernel_rfl) (by kernel_rfl) (⟨(H.hold _ (by simp)), (H.hold _ (by simp)), (H.hold _ (by simp))⟩) (fun _ hS => ov_eqlb rfl Try.underlying4 rfl rfl) rfl rfl rfl ?_
              refine th_take 3 rfl (by kernel_rfl) (by kernel_rfl) (by kernel_rfl) (⟨(H.hold _ (by simp)), (H.hold _ (by simp)), (H.hold _ (by simp))⟩) (fun _ hS => ov_move rfl rfl) rfl rfl rfl ?_
              refine th_split (t := 100) rfl (fun s100 => ?_) (fun s100 => ?_)
              · skip
                refine th_take 4 rfl (by kernel_rfl) (by kernel_rfl) (by kernel_rfl) (⟨(H.hold _ (by simp)), (H.hold _ (by simp)), (H.hold _ (by simp))⟩) (fun _ hS => ov_load_blkN hS.1 rfl (Try.isAgg78 _) (Try.sizeOf78 _) rfl rfl rfl) rfl rfl rfl ?_
                refine th_take 6 rfl (by kernel_rfl) (by kernel_rfl) (by kernel_rfl) (⟨(H.hold _ (by simp)), (H.hold _ (by simp)), (H.hold _ (by simp))⟩) (fun _ hS => ov_load_blkN hS.2.1 rfl (Try.isAgg85 _) (Try.sizeOf85 _) rfl rfl rfl) rfl rfl rfl ?_
                refine th_one 5 (by kernel_rfl) ?_
                refine tw_call (Plain13_c Aq cq (oX ((Lb, false) : RS)) (oNow ((Lb, false) : RS)) (oLast ((Lb, false) : RS)) _ (vec_rd (show (vec Aq cq 30 3 encThing (oX ((Lb, false) : RS))).holds _ from (H.hold _ (by simp))) lenThing (by decide)) (by omega)) rfl rfl rfl rfl Try.call36 rfl rfl rfl ?_
                rintro _ w54 ⟨A14, c14, rfl, HC⟩
                have H := H.call0r HC
                refine ⟨⟨(H.hold _ (by simp)), (H.hold _ (by simp)), (H.hold _ (by simp))⟩, ?_⟩
                refine th_one 7 (by kernel_rfl) ?_
                refine tw_call (Same13_c A14 c14 (zR (oX ((Lb, false) : RS))) (oNow ((Lb, false) : RS)) (oLast ((Lb, false) : RS)) Ar cr (zR (oX ((Lb, false) : RS))) (oNow ((Lb, false) : RS)) (oLast ((Lb, false) : RS)) _ (vec_rd (show (vec A14 c14 59 4 encRThing (zR (oX ((Lb, false) : RS)))).holds _ from (H.hold _ (by simp))) lenRThing (by decide)) (vec_rd (show (vec Ar cr 59 4 encRThing (zR (oX ((Lb, false) : RS)))).holds _ from (H.hold _ (by simp))) lenRThing (by decide)) (by rw [zR_len]; omega)) rfl rfl rfl rfl Try.call39 rfl rfl rfl ?_
                rintro _ w55 ⟨rfl, HC⟩
                have H := H.call0n HC
                refine ⟨⟨(H.hold _ (by simp)), (H.hold _ (by simp)), (H.hold _ (by simp))⟩, ?_⟩
                refine th_take 8 rfl (by kernel_rfl) (by kernel_rfl) (by kernel_rfl) (⟨(H.hold _ (by simp)), (H.hold _ (by simp)), (H.hold _ (by simp))⟩) (fun _ hS => ov_pick (vb := undef) rfl rfl rfl rfl) rfl rfl rfl ?_
                refine th_take 9 rfl (by kernel_rfl) (by kernel_rfl) (by kernel_rfl) (⟨(H.hold _ (by simp)), (H.hold _ (by simp)), (H.hold _ (by simp))⟩) (fun _ hS => ov_move rfl rfl) rfl rfl rfl ?_
                refine th_split (t := 106) rfl (fun s106 => ?_) (fun s106 => ?_)
                · skip
                  refine th_take 10 rfl (by kernel_rfl) (by kernel_rfl) (by kernel_rfl) (⟨(H.hold _ (by simp)), (H.hold _ (by simp)), (H.hold _ (by simp))⟩) (fun _ hS => ov_move rfl rfl) rfl rfl rfl ?_
                  refine th_take 12 rfl (by kernel_rfl) (by kernel_rfl) (by kernel_rfl) (⟨(H.hold _ (by simp)), (H.hold _ (by simp)), (H.hold _ (by simp))⟩) (fun _ hS => ov_move rfl rfl) rfl rfl rfl ?_
                  refine th_take 13 rfl (by kernel_rfl) (by kernel_rfl) (by kernel_rfl) (⟨(H.hold _ (by simp)), (H.hold _ (by simp)), (H.hold _ (by simp))⟩) (fun _ hS => ov_nilCheck rfl rfl) rfl rfl rfl ?_
                  refine th_take 14 rfl (by kernel_rfl) (by kernel_rfl) (by kernel_rfl) (⟨(H.hold _ (by simp)), (H.hold _ (by simp)), (H.hold _ (by simp))⟩) (fun _ hS => ov_fieldAddr rfl Try.underlying112 rfl (Try.sizeOf98 _) (by decide) rfl) rfl rfl rfl ?_
                  refine th_take 15 rfl (by kernel_rfl) (by kernel_rfl) (by kernel_rfl) (⟨(H.hold _ (by simp)), (H.hold _ (by simp)), (H.hold _ (by simp))⟩) (fun _ hS => ov_load_blk hS.2.2 rfl (Try.isAgg98 _) rfl rfl rfl) rfl rfl rfl ?_
                  refine th_take 16 rfl (by kernel_rfl) (by kernel_rfl) (by kernel_rfl) (⟨(H.hold _ (by simp)), (H.hold _ (by simp)), (H.hold _ (by simp))⟩) (fun _ hS => ov_len rfl rfl Try.underlying98 rfl) rfl rfl rfl ?_
                  refine th_one 11 (by kernel_rfl) ?_
                  refine tw_call (qLeft_c r A8 c8 (oS ((Lb, false) : RS)).1 (oS ((Lb, false) : RS)).2 _ (H.hold _ (by simp))) rfl rfl rfl rfl Try.call50 rfl rfl rfl ?_
                  rintro _ w56 ⟨rfl, HC⟩
                  have H := H.call0n HC
                  refine ⟨⟨(H.hold _ (by simp)), (H.hold _ (by simp)), (H.hold _ (by simp))⟩, ?_⟩
                  refine th_take 17 rfl (by kernel_rfl) (by kernel_rfl) (by kernel_rfl) (⟨(H.hold _ (by simp)), (H.hold _ (by simp)), (H.hold _ (by simp))⟩) (fun _ hS => ov_eql rfl rfl rfl) rfl rfl rfl ?_
                  refine th_take 18 rfl (by kernel_rfl) (by kernel_rfl) (by kernel_rfl) (⟨(H.hold _ (by simp)), (H.hold _ (by simp)), (H.hold _ (by simp))⟩) (fun _ hS => ov_pick (vb := undef) rfl rfl rfl rfl) rfl rfl rfl ?_
                  refine th_take 19 rfl (by kernel_rfl) (by kernel_rfl) (by kernel_rfl) (⟨(H.hold _ (by simp)), (H.hold _ (by simp)), (H.hold _ (by simp))⟩) (fun _ hS => ov_move rfl rfl) rfl rfl rfl ?_
                  refine th_split (t := 116) rfl (fun s116 => ?_) (fun s116 => ?_)
                  · skip
                    refine th_take 20 rfl (by kernel_rfl) (by kernel_rfl) (by kernel_rfl) (⟨(H.hold _ (by simp)), (H.hold _ (by simp)), (H.hold _ (by simp))⟩) (fun _ hS => ov_move rfl rfl) rfl rfl rfl ?_
                    refine th_take 22 rfl (by kernel_rfl) (by kernel_rfl) (by kernel_rfl) (⟨(H.hold _ (by simp)), (H.hold _ (by simp)), (H.hold _ (by simp))⟩) (fun _ hS => ov_move rfl rfl) rfl rfl rfl ?_
                    refine th_take 23 rfl (by kernel_rfl) (by kernel_rfl) (by kernel_rfl) (⟨(H.hold _ (by simp)), (H.hold _ (by simp)), (H.hold _ (by simp))⟩) (fun _ hS => ov_nilCheck rfl rfl) rfl rfl rfl ?_
                    refine th_take 24 rfl (by kernel_rfl) (by kernel_rfl) (by kernel_rfl) (⟨(H.hold _ (by simp)), (H.hold _ (by simp)), (H.hold _ (by simp))⟩) (fun _ hS => ov_fieldAddr rfl Try.underlying112 rfl (Try.sizeOf4 _) (by decide) rfl) rfl rfl rfl ?_
                    refine th_take 25 rfl (by kernel_rfl) (by kernel_rfl) (by kernel_rfl) (⟨(H.hold _ (by simp)), (H.hold _ (by simp)), (H.hold _ (by simp))⟩) (fun _ hS => ov_load_blk hS.2.2 rfl (Try.isAgg4 _) rfl rfl rfl) rfl rfl rfl ?_
                    refine th_one 21 (by kernel_rfl) ?_
                    refine tw_call (qBad_c r A8 c8 (oS ((Lb, false) : RS)).1 (oS ((Lb, false) : RS)).2 _ (H.hold _ (by simp))) rfl rfl rfl rfl Try.call51 rfl rfl rfl ?_
                    rintro _ w57 ⟨rfl, HC⟩
                    have H := H.call0n HC
                    refine ⟨⟨(H.hold _ (by simp)), (H.hold _ (by simp)), (H.hold _ (by simp))⟩, ?_⟩
                    refine th_take 26 rfl (by kernel_rfl) (by kernel_rfl) (by kernel_rfl) (⟨(H.hold _ (by simp)), (H.hold _ (by simp)), (H.hold _ (by simp))⟩) (fun _ hS => ov_eqlb rfl Try.underlying4 rfl rfl) rfl rfl rfl ?_
                    refine th_take 27 rfl (by kernel_rfl) (by kernel_rfl) (by kernel_rfl) (⟨(H.hold _ (by simp)), (H.hold _ (by simp)), (H.hold _ (by simp))⟩) (fun _ hS => ov_pick (vb := undef) rfl rfl rfl rfl) rfl rfl rfl ?_
                    refine th_take 28 rfl (by kernel_rfl) (by kernel_rfl) (by kernel_rfl) (⟨(H.hold _ (by simp)), (H.hold _ (by simp)), (H.hold _ (by simp))⟩) (fun _ hS => ov_move rfl rfl) rfl rfl rfl ?_
                    refine th_split (t := 125) rfl (fun s125 => ?_) (fun s125 => ?_)
                    · skip
                      refine th_one 29 (by kernel_rfl) ?_
                      refine tw_call (lives13_c _) rfl rfl rfl rfl Try.call29 rfl rfl rfl ?_
                      rintro _ w58 ⟨rfl, HC⟩
                      have H := H.call0n HC
                      refine ⟨⟨(H.hold _ (by simp)), (H.hold _ (by simp)), (H.hold _ (by simp))⟩, ?_⟩
                      refine th_take 30 rfl (by kernel_rfl) (by kernel_rfl) (by kernel_rfl) (⟨(H.hold _ (by simp)), (H.hold _ (by simp)), (H.hold _ (by simp))⟩) (fun _ hS => ov_pick (vb := undef) rfl rfl rfl rfl) rfl rfl rfl ?_
                      refine th_take 31 rfl (by kernel_rfl) (by kernel_rfl) (by kernel_rfl) (⟨(H.hold _ (by simp)), (H.hold _ (by simp)), (H.hold _ (by simp))⟩) (fun _ hS => ov_assign rfl rfl) rfl rfl rfl ?_
                      refine th_done (by kernel_rfl) ?_
                      refine hK20 _ _ (TrC.keep [6, 15, 14, 13, 12, 11, 10, 52, 28, 4, 3, 2] ?_)
                      show TrC _ _ _ _ [(6, _), (15, _), (14, _), (13, _), (12, _), (11, _), (10, _), (52, _), (28, _), (4, _), (3, _), (2, _)] _ _
                      refine tr_ret (post_ret1 (.inr rfl) rfl rfl ?_)
                      exact ⟨rfl, H.drop0.drop0.drop0.drop0.drop0.drop0.drop0.drop0.drop0⟩
                    · exact absurd (by simp) s125
                  · exact absurd rfl s116
                · exact absurd ⟨rfl, rfl, rfl⟩ s106
              · exact absurd (by simp) s100

end Go.Proofs.Ytblipnjjgbggiaa
