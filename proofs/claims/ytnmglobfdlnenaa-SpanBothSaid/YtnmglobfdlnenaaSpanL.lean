/- Contracts of the package span, of curfewref07, and of what they call, part 3: the laws. Conditions: none. -/
import Derived.Test.YtnmglobfdlnenaaSpanB
import Derived.Test.YtnmglobfdlnenaaSpL
namespace Go.Proofs.Ytnmglobfdlnenaa
open Go Go.RowKit
set_option linter.unusedVariables false
set_option linter.unusedSimpArgs false

theorem liveS1 : nthT (nthV [(0, 10), (20, 30)] 12) = .tuple #[.int .i64 22, .bool true] := by
  have h : nthV [(0, 10), (20, 30)] 12 = some 22 := by decide
  rw [h]; rfl
theorem liveS2 : withinV [(0, 10), (20, 30)] 5 25 = 10 := by decide

/-! curfew/curfewlaw07.lives -/
set_option maxRecDepth 20000 in
theorem lives07_c (w : World) : Does Try.prog 34 #[] w (fun v w' => v = .bool true ∧ SH w noBlocks [] w') := by
  refine does_enter0 Try.func34 rfl Try.ntmps34 rfl ?_
  have H := SH.start w noBlocks
  refine tr_seq (fun K1 hK1 => ?_)
  -- region 0: law.go:11
  refine tr_region ?_
  refine tr_val (ov_assign rfl rfl) rfl rfl rfl ?_
  refine tr_nil (hK1 _ _ (TrC.keep [0] ?_))
  show TrC _ _ _ _ [(0, _)] _ _
  refine tr_seq (fun K2 hK2 => ?_)
  -- region 1: law.go:12
  refine tr_region ?_
  refine tr_val (ov_build rfl (fun ρ k => bs2 k rfl rfl) (bld40_0_1 _ _ _)) rfl rfl rfl ?_
  refine tr_val (ov_build rfl (fun ρ k => bs2 k rfl rfl) (bld40_0_1 _ _ _)) rfl rfl rfl ?_
  refine tr_buildSlice H rfl Try.underlying33 info40 rfl (fun ρ k => bs2 k rfl rfl) (by decide) (by decide) (fill_Span_2 _ _ _ _) rfl rfl rfl ?_
  intro b1 w1 hb1 H
  refine tr_val (ov_assign rfl rfl) rfl rfl rfl ?_
  refine tr_nil (hK2 _ _ (TrC.keep [1, 0] ?_))
  show TrC _ _ _ _ [(1, _), (0, _)] _ _
  refine tr_seq (fun K3 hK3 => ?_)
  -- region 2: law.go:13
  refine tr_region ?_
  refine tr_val (ov_move rfl rfl) rfl rfl rfl ?_
  refine tr_call (Nth_c _ _ [(0, 10), (20, 30)] _ (rd_blk [(0, 10), (20, 30)] H.get0 rfl lenSpan) (by decide) 12 (by decide)) rfl rfl rfl Try.call41 rfl rfl rfl ?_
  rintro _ w2 ⟨rfl, HC⟩
  have H := H.call0n HC
  rw [liveS1]
  refine tr_val (ov_move rfl rfl) rfl rfl rfl ?_
  refine tr_val (ov_extract rfl rfl rfl) rfl rfl rfl ?_
  refine tr_val (ov_extract rfl rfl rfl) rfl rfl rfl ?_
  refine tr_val (ov_assign rfl rfl) rfl rfl rfl ?_
  refine tr_val (ov_assign rfl rfl) rfl rfl rfl ?_
  refine tr_nil (hK3 _ _ (TrC.keep [3, 2, 1, 0] ?_))
  show TrC _ _ _ _ [(3, _), (2, _), (1, _), (0, _)] _ _
  refine tr_seq (fun K4 hK4 => ?_)
  -- region 3: law.go:14
  refine tr_region ?_
  refine tr_val (ov_move rfl rfl) rfl rfl rfl ?_
  refine tr_call (Within_c _ _ [(0, 10), (20, 30)] _ (rd_blk [(0, 10), (20, 30)] H.get0 rfl lenSpan) (by decide) 5 25) rfl rfl rfl Try.call39 rfl rfl rfl ?_
  rintro _ w3 ⟨rfl, HC⟩
  have H := H.call0n HC
  refine tr_val (ov_eql rfl rfl rfl) rfl rfl rfl ?_
  refine tr_val (ov_move rfl rfl) rfl rfl rfl ?_
  first | refine tr_split (t := 15) rfl (fun s15 => ?_) (fun s15 => ?_) | refine tr_splitb (t := 15) rfl (fun s15 => ?_) (fun s15 => ?_)
  · skip
    refine tr_val (ov_move rfl rfl) rfl rfl rfl ?_
    refine tr_val (ov_eql rfl rfl rfl) rfl rfl rfl ?_
    refine tr_val (ov_pick (vb := undef) rfl rfl rfl rfl) rfl rfl rfl ?_
    refine tr_val (ov_move rfl rfl) rfl rfl rfl ?_
    first | refine tr_split (t := 19) rfl (fun s19 => ?_) (fun s19 => ?_) | refine tr_splitb (t := 19) rfl (fun s19 => ?_) (fun s19 => ?_)
    · skip
      refine tr_val (ov_move rfl rfl) rfl rfl rfl ?_
      refine tr_val (ov_pick (vb := undef) rfl rfl rfl rfl) rfl rfl rfl ?_
      refine tr_val (ov_move rfl rfl) rfl rfl rfl ?_
      first | refine tr_split (t := 22) rfl (fun s22 => ?_) (fun s22 => ?_) | refine tr_splitb (t := 22) rfl (fun s22 => ?_) (fun s22 => ?_)
      · skip
        refine tr_val (ov_build rfl (fun ρ k => bs2 k rfl rfl) (bld40_0_1 _ _ _)) rfl rfl rfl ?_
        refine tr_val (ov_build rfl (fun ρ k => bs2 k rfl rfl) (bld40_0_1 _ _ _)) rfl rfl rfl ?_
        refine tr_buildSlice H rfl Try.underlying33 info40 rfl (fun ρ k => bs2 k rfl rfl) (by decide) (by decide) (fill_Span_2 _ _ _ _) rfl rfl rfl ?_
        intro b2 w4 hb2 H
        refine tr_call (Join_c _ _ [(5, 8), (0, 5)] _ (rd_blk [(5, 8), (0, 5)] H.get0 rfl lenSpan) (by decide)) rfl rfl rfl Try.call36 rfl rfl rfl ?_
        rintro _ w5 ⟨A', c', R, rfl, hJ, HC⟩
        have H := H.call0r HC
        have hJR := join_live hJ
        refine tr_val (ov_build rfl (fun ρ k => bs2 k rfl rfl) (bld40_0_1 _ _ _)) rfl rfl rfl ?_
        refine tr_buildSlice H rfl Try.underlying33 info40 rfl (fun ρ k => bs1 k rfl) (by decide) (by decide) (fill_Span_1 _ _) rfl rfl rfl ?_
        intro b3 w6 hb3 H
        refine tr_call (Same_c A' c' R _ (vec_rd H.get1 lenSpan (by decide)) (by rw [hJR]; decide) _ _ [(0, 8)] (rd_blk [(0, 8)] H.get0 rfl lenSpan) (by decide)) rfl rfl rfl Try.call45 rfl rfl rfl ?_
        rintro _ w7 ⟨rfl, HC⟩
        have H := H.call0n HC
        refine tr_val (ov_pick (vb := undef) rfl rfl rfl rfl) rfl rfl rfl ?_
        refine tr_val (ov_assign rfl rfl) rfl rfl rfl ?_
        refine tr_nil (hK4 _ _ (TrC.keep [0, 1] ?_))
        show TrC _ _ _ _ [(0, _), (1, _)] _ _
        refine tr_ret (post_ret1 (.inr rfl) rfl rfl ?_)
        exact ⟨congrArg Value.bool (decide_eq_true hJR), H.drop0.drop0.drop0.drop0⟩
      · cases s22
    · exact absurd rfl s19
  · exact absurd liveS2 s15

/-! curfew/curfewlaw07.SpanBoth -/
set_option maxRecDepth 20000 in
theorem SpanBoth_c (A : Option Addr) (c : Nat) (L : List Sp) (w : World) (hR : Rd w A 2 (L.map encSpan)) (A2 : Option Addr) (c2 : Nat) (M : List Sp) (hR2 : Rd w A2 2 (M.map encSpan)) : Does Try.prog 11 #[.slice A L.length c, .slice A2 M.length c2] w (fun v w' => v = .bool true ∧ SH w noBlocks [] w') := by
  refine does_enter2 Try.func11 rfl Try.ntmps11 rfl ?_
  have H := SH.start w noBlocks
  refine tr_seq (fun K1 hK1 => ?_)
  -- region 0: law.go:46
  refine tr_region ?_
  refine tr_val (ov_assign rfl rfl) rfl rfl rfl ?_
  refine tr_nil (hK1 _ _ (TrC.keep [4, 0, 1] ?_))
  show TrC _ _ _ _ [(4, _), (0, _), (1, _)] _ _
  refine tr_seq (fun K2 hK2 => ?_)
  refine tr_seq (fun K3 hK3 => ?_)
  -- region 1: law.go:47
  refine tr_region ?_
  refine tr_val (ov_move rfl rfl) rfl rfl rfl ?_
  refine tr_val (ov_len rfl rfl Try.underlying33 rfl) rfl rfl rfl ?_
  refine tr_val (ov_gtr rfl rfl rfl) rfl rfl rfl ?_
  refine tr_val (ov_move rfl rfl) rfl rfl rfl ?_
  first | refine tr_split (t := 8) rfl (fun s8 => ?_) (fun s8 => ?_) | refine tr_splitb (t := 8) rfl (fun s8 => ?_) (fun s8 => ?_)
  · skip
    refine tr_pass rfl rfl rfl ?_
    refine tr_pass rfl rfl rfl ?_
    refine tr_pass rfl rfl rfl ?_
    refine tr_val (ov_pick (vb := undef) rfl rfl rfl rfl) rfl rfl rfl ?_
    refine tr_nil (hK3 _ _ (TrC.keep [12, 4, 0, 1] ?_))
    show TrC _ _ _ _ [(12, _), (4, _), (0, _), (1, _)] _ _
    refine tr_cond_t rfl rfl ?_
    refine tr_seq (fun K4 hK4 => ?_)
    -- region 2: law.go:48
    refine tr_region ?_
    refine tr_call (lives07_c _) rfl rfl rfl Try.call34 rfl rfl rfl ?_
    rintro _ w1 ⟨rfl, HC⟩
    have H := H.call0n HC
    refine tr_val (ov_assign rfl rfl) rfl rfl rfl ?_
    refine tr_nil (hK4 _ _ (TrC.keep [4, 12, 0, 1] ?_))
    show TrC _ _ _ _ [(4, _), (12, _), (0, _), (1, _)] _ _
    refine tr_ret (post_ret1 (.inr rfl) rfl rfl ?_)
    exact ⟨rfl, H⟩
  · skip
    refine tr_val (ov_move rfl rfl) rfl rfl rfl ?_
    refine tr_val (ov_len rfl rfl Try.underlying33 rfl) rfl rfl rfl ?_
    refine tr_val (ov_gtr rfl rfl rfl) rfl rfl rfl ?_
    refine tr_val (ov_pick_f (va := undef) rfl rfl rfl rfl) rfl rfl rfl ?_
    refine tr_nil (hK3 _ _ (TrC.keep [12, 4, 0, 1] ?_))
    show TrC _ _ _ _ [(12, _), (4, _), (0, _), (1, _)] _ _
    first | refine tr_cond rfl (fun c12 => ?_) (fun c12 => ?_) | refine tr_condb rfl (fun c12 => ?_) (fun c12 => ?_)
    · skip
      refine tr_seq (fun K5 hK5 => ?_)
      -- region 2: law.go:48
      refine tr_region ?_
      refine tr_call (lives07_c _) rfl rfl rfl Try.call34 rfl rfl rfl ?_
      rintro _ w2 ⟨rfl, HC⟩
      have H := H.call0n HC
      refine tr_val (ov_assign rfl rfl) rfl rfl rfl ?_
      refine tr_nil (hK5 _ _ (TrC.keep [4, 12, 0, 1] ?_))
      show TrC _ _ _ _ [(4, _), (12, _), (0, _), (1, _)] _ _
      refine tr_ret (post_ret1 (.inr rfl) rfl rfl ?_)
      exact ⟨rfl, H⟩
    · skip
      refine tr_skip (hK2 _ _ (TrC.keep [12, 4, 0, 1] ?_))
      show TrC _ _ _ _ [(12, _), (4, _), (0, _), (1, _)] _ _
      refine tr_seq (fun K6 hK6 => ?_)
      -- region 3: law.go:50
      have hL : L.length ≤ 4294967296 := by omega
      have hM : M.length ≤ 4294967296 := by omega
      have hbl := both_len (L := L) (M := M)
      refine tr_region ?_
      refine tr_val (ov_move rfl rfl) rfl rfl rfl ?_
      refine tr_val (ov_move rfl rfl) rfl rfl rfl ?_
      refine tr_call (Both_c A c L _ (H.rd0 hR) hL A2 c2 M (H.rd0 hR2) hM) rfl rfl rfl Try.call46 rfl rfl rfl ?_
      rintro _ w3 ⟨A3, c3, rfl, HC⟩
      have H := H.call0r HC
      refine tr_val (ov_move rfl rfl) rfl rfl rfl ?_
      refine tr_val (ov_move rfl rfl) rfl rfl rfl ?_
      refine tr_call (BothR_c A c L _ (H.rd0 hR) hL A2 c2 M (H.rd0 hR2) hM) rfl rfl rfl Try.call47 rfl rfl rfl ?_
      rintro _ w4 ⟨A4, c4, rfl, HC⟩
      have H := H.call0r HC
      refine tr_call (Same_c _ _ _ _ (vec_rd H.get1 lenSpan (by decide)) (by omega) _ _ _ (vec_rd H.get0 lenSpan (by decide)) (by omega)) rfl rfl rfl Try.call45 rfl rfl rfl ?_
      rintro _ w5 ⟨rfl, HC⟩
      have H := H.call0n HC
      refine tr_val (ov_move rfl rfl) rfl rfl rfl ?_
      first | refine tr_split (t := 21) rfl (fun s21 => ?_) (fun s21 => ?_) | refine tr_splitb (t := 21) rfl (fun s21 => ?_) (fun s21 => ?_)
      · skip
        refine tr_val (ov_move rfl rfl) rfl rfl rfl ?_
        refine tr_call (Join_c A c L _ (H.rd0 hR) hL) rfl rfl rfl Try.call36 rfl rfl rfl ?_
        rintro _ w6 ⟨A5, c5, R1, rfl, hJ1, HC⟩
        have H := H.call0r HC
        have hl1 := hJ1.len
        refine tr_val (ov_move rfl rfl) rfl rfl rfl ?_
        refine tr_call (JoinR_c A c L _ (H.rd0 hR) hL) rfl rfl rfl Try.call48 rfl rfl rfl ?_
        rintro _ w7 ⟨A6, c6, R2, rfl, hJ2, HC⟩
        have H := H.call0r HC
        have hl2 := hJ2.len
        refine tr_call (Same_c _ _ R1 _ (vec_rd H.get1 lenSpan (by decide)) (by omega) _ _ R2 (vec_rd H.get0 lenSpan (by decide)) (by omega)) rfl rfl rfl Try.call45 rfl rfl rfl ?_
        rintro _ w8 ⟨rfl, HC⟩
        have H := H.call0n HC
        refine tr_val (ov_pick (vb := undef) rfl rfl rfl rfl) rfl rfl rfl ?_
        refine tr_val (ov_move rfl rfl) rfl rfl rfl ?_
        first | refine tr_split (t := 28) rfl (fun s28 => ?_) (fun s28 => ?_) | refine tr_splitb (t := 28) rfl (fun s28 => ?_) (fun s28 => ?_)
        · skip
          refine tr_call (lives07_c _) rfl rfl rfl Try.call34 rfl rfl rfl ?_
          rintro _ w9 ⟨rfl, HC⟩
          have H := H.call0n HC
          refine tr_val (ov_pick (vb := undef) rfl rfl rfl rfl) rfl rfl rfl ?_
          refine tr_val (ov_assign rfl rfl) rfl rfl rfl ?_
          refine tr_nil (hK6 _ _ (TrC.keep [4, 12, 0, 1] ?_))
          show TrC _ _ _ _ [(4, _), (12, _), (0, _), (1, _)] _ _
          refine tr_ret (post_ret1 (.inr rfl) rfl rfl ?_)
          exact ⟨rfl, H.drop0.drop0.drop0.drop0⟩
        · exact absurd (hJ1.same hJ2) s28
      · exact absurd rfl s21

/-! curfew/curfewlaw07.SpanTells -/
set_option maxRecDepth 20000 in
theorem SpanTells_c (A : Option Addr) (c : Nat) (L : List Sp) (w : World) (hR : Rd w A 2 (L.map encSpan)) (A2 : Option Addr) (c2 : Nat) (M : List Sp) (hR2 : Rd w A2 2 (M.map encSpan)) (a b : Int) (ha : -9223372036854775808 ≤ a ∧ a ≤ 9223372036854775807)(hb : -9223372036854775808 ≤ b ∧ b ≤ 9223372036854775807) : Does Try.prog 10 #[.slice A L.length c, .slice A2 M.length c2, .int .i64 a, .int .i64 b] w (fun v w' => v = .bool true ∧ SH w noBlocks [] w') := by
  refine does_enter4 Try.func10 rfl Try.ntmps10 rfl ?_
  have H := SH.start w noBlocks
  refine tr_seq (fun K1 hK1 => ?_)
  -- region 0: law.go:18
  refine tr_region ?_
  refine tr_val (ov_assign rfl rfl) rfl rfl rfl ?_
  refine tr_nil (hK1 _ _ (TrC.keep [8, 0, 1, 2, 3] ?_))
  show TrC _ _ _ _ [(8, _), (0, _), (1, _), (2, _), (3, _)] _ _
  refine tr_seq (fun K2 hK2 => ?_)
  refine tr_seq (fun K3 hK3 => ?_)
  -- region 1: law.go:19
  refine tr_region ?_
  refine tr_val (ov_move rfl rfl) rfl rfl rfl ?_
  refine tr_val (ov_len rfl rfl Try.underlying33 rfl) rfl rfl rfl ?_
  refine tr_val (ov_gtr rfl rfl rfl) rfl rfl rfl ?_
  refine tr_val (ov_move rfl rfl) rfl rfl rfl ?_
  first | refine tr_split (t := 18) rfl (fun s18 => ?_) (fun s18 => ?_) | refine tr_splitb (t := 18) rfl (fun s18 => ?_) (fun s18 => ?_)
  · skip
    refine tr_pass rfl rfl rfl ?_
    refine tr_pass rfl rfl rfl ?_
    refine tr_pass rfl rfl rfl ?_
    refine tr_val (ov_pick (vb := undef) rfl rfl rfl rfl) rfl rfl rfl ?_
    refine tr_nil (hK3 _ _ (TrC.keep [22, 8, 0, 1, 2, 3] ?_))
    show TrC _ _ _ _ [(22, _), (8, _), (0, _), (1, _), (2, _), (3, _)] _ _
    refine tr_cond_t rfl rfl ?_
    refine tr_seq (fun K4 hK4 => ?_)
    -- region 2: law.go:20
    refine tr_region ?_
    refine tr_call (lives07_c _) rfl rfl rfl Try.call34 rfl rfl rfl ?_
    rintro _ w1 ⟨rfl, HC⟩
    have H := H.call0n HC
    refine tr_val (ov_assign rfl rfl) rfl rfl rfl ?_
    refine tr_nil (hK4 _ _ (TrC.keep [8, 22, 0, 1, 2, 3] ?_))
    show TrC _ _ _ _ [(8, _), (22, _), (0, _), (1, _), (2, _), (3, _)] _ _
    refine tr_ret (post_ret1 (.inr rfl) rfl rfl ?_)
    exact ⟨rfl, H⟩
  · skip
    refine tr_val (ov_move rfl rfl) rfl rfl rfl ?_
    refine tr_val (ov_len rfl rfl Try.underlying33 rfl) rfl rfl rfl ?_
    refine tr_val (ov_gtr rfl rfl rfl) rfl rfl rfl ?_
    refine tr_val (ov_pick_f (va := undef) rfl rfl rfl rfl) rfl rfl rfl ?_
    refine tr_nil (hK3 _ _ (TrC.keep [22, 8, 0, 1, 2, 3] ?_))
    show TrC _ _ _ _ [(22, _), (8, _), (0, _), (1, _), (2, _), (3, _)] _ _
    first | refine tr_cond rfl (fun c22 => ?_) (fun c22 => ?_) | refine tr_condb rfl (fun c22 => ?_) (fun c22 => ?_)
    · skip
      refine tr_seq (fun K5 hK5 => ?_)
      -- region 2: law.go:20
      refine tr_region ?_
      refine tr_call (lives07_c _) rfl rfl rfl Try.call34 rfl rfl rfl ?_
      rintro _ w2 ⟨rfl, HC⟩
      have H := H.call0n HC
      refine tr_val (ov_assign rfl rfl) rfl rfl rfl ?_
      refine tr_nil (hK5 _ _ (TrC.keep [8, 22, 0, 1, 2, 3] ?_))
      show TrC _ _ _ _ [(8, _), (22, _), (0, _), (1, _), (2, _), (3, _)] _ _
      refine tr_ret (post_ret1 (.inr rfl) rfl rfl ?_)
      exact ⟨rfl, H⟩
    · skip
      refine tr_skip (hK2 _ _ (TrC.keep [22, 8, 0, 1, 2, 3] ?_))
      show TrC _ _ _ _ [(22, _), (8, _), (0, _), (1, _), (2, _), (3, _)] _ _
      refine tr_seq (fun K6 hK6 => ?_)
      refine tr_seq (fun K7 hK7 => ?_)
      -- region 3: law.go:22
      have hL : L.length ≤ 4294967296 := by omega
      have hM : M.length ≤ 4294967296 := by omega
      refine tr_region ?_
      refine tr_val (ov_move rfl rfl) rfl rfl rfl ?_
      refine tr_val (ov_len rfl rfl Try.underlying33 rfl) rfl rfl rfl ?_
      refine tr_val (ov_move rfl rfl) rfl rfl rfl ?_
      refine tr_nil (hK7 _ _ (TrC.keep [26, 25, 24, 22, 8, 0, 1, 2, 3] ?_))
      show TrC _ _ _ _ [(26, _), (25, _), (24, _), (22, _), (8, _), (0, _), (1, _), (2, _), (3, _)] _ _
      refine tr_block ?_
      refine tr_loop_ (X := Int) [25, 24, 22, 0, 1, 2, 3] (fun i => [(26, .int .i64 i)]) (fun i w' => 0 ≤ i ∧ i ≤ L.length ∧ SH w noBlocks [] w') (fun i => (L.length - i).toNat) (0) (Sub.cons rfl (Sub.cons rfl (Sub.cons rfl (Sub.cons rfl (Sub.cons rfl (Sub.cons rfl (Sub.cons rfl (Sub.cons rfl Sub.nil)))))))) (⟨by omega, by omega, H⟩) ?_
      rintro i w3 ⟨hi0, hi1, H⟩ K8 hK8
      show TrC _ _ _ _ [(26, _), (25, _), (24, _), (22, _), (0, _), (1, _), (2, _), (3, _)] _ _
      refine tr_seq (fun K9 hK9 => ?_)
      -- region 4: law.go:22
      refine tr_region ?_
      refine tr_val (ov_lss rfl rfl rfl) rfl rfl rfl ?_
      refine tr_nil (hK9 _ _ (TrC.keep [27, 26, 25, 24, 22, 0, 1, 2, 3] ?_))
      show TrC _ _ _ _ [(27, _), (26, _), (25, _), (24, _), (22, _), (0, _), (1, _), (2, _), (3, _)] _ _
      refine tr_seq (fun K10 hK10 => ?_)
      first | refine tr_cond rfl (fun c27 => ?_) (fun c27 => ?_) | refine tr_condb rfl (fun c27 => ?_) (fun c27 => ?_)
      · skip
        refine tr_skip (hK10 _ _ (TrC.keep [27, 26, 25, 24, 22, 0, 1, 2, 3] ?_))
        show TrC _ _ _ _ [(27, _), (26, _), (25, _), (24, _), (22, _), (0, _), (1, _), (2, _), (3, _)] _ _
        refine tr_seq (fun K11 hK11 => ?_)
        refine tr_block ?_
        refine tr_seq (fun K12 hK12 => ?_)
        -- region 5: law.go:22
        refine tr_region ?_
        refine tr_val (ov_indexAddrR (H.rd0 hR) rfl Try.underlying33 (Try.sizeOf40 _) rfl rfl (by omega) (by omega)) rfl rfl rfl ?_
        refine tr_val (ld_Span (H.rd0 hR) rfl (Try.isAgg40 _) (Try.sizeOf40 _) rfl (by omega) (by omega)) rfl rfl rfl ?_
        refine tr_alloc H rfl (Try.zeroValue40 _) rfl rfl rfl rfl ?_
        intro b1 w4 hb1 H
        first | (refine tr_storeW H.get0 rfl (Try.sizeOf40 _) rfl rfl rfl rfl rfl rfl rfl rfl ?_; intro w5 U; have H := H.upd0 U; clear U) | (refine tr_storeW H.get1 rfl (Try.sizeOf40 _) rfl rfl rfl rfl rfl rfl rfl rfl ?_; intro w5 U; have H := H.upd1 U; clear U) | (refine tr_storeW H.get2 rfl (Try.sizeOf40 _) rfl rfl rfl rfl rfl rfl rfl rfl ?_; intro w5 U; have H := H.upd2 U; clear U) | (refine tr_storeW H.get3 rfl (Try.sizeOf40 _) rfl rfl rfl rfl rfl rfl rfl rfl ?_; intro w5 U; have H := H.upd3 U; clear U) | (refine tr_storeW H.get4 rfl (Try.sizeOf40 _) rfl rfl rfl rfl rfl rfl rfl rfl ?_; intro w5 U; have H := H.upd4 U; clear U) | (refine tr_storeW H.get5 rfl (Try.sizeOf40 _) rfl rfl rfl rfl rfl rfl rfl rfl ?_; intro w5 U; have H := H.upd5 U; clear U)
        refine tr_nil (hK12 _ _ (TrC.keep [10, 27, 26, 25, 24, 22, 0, 1, 2, 3] ?_))
        show TrC _ _ _ _ [(10, _), (27, _), (26, _), (25, _), (24, _), (22, _), (0, _), (1, _), (2, _), (3, _)] _ _
        refine tr_seq (fun K13 hK13 => ?_)
        -- region 6: law.go:23
        refine tr_quiet mixed (by kernel_rfl) H ?_
        first | refine tq_val (fun _ H => ov_load_blkN H.get0 rfl (Try.isAgg40 _) (Try.sizeOf40 _) rfl rfl rfl) rfl rfl rfl ?_ | refine tq_val (fun _ H => ov_load_blkN H.get1 rfl (Try.isAgg40 _) (Try.sizeOf40 _) rfl rfl rfl) rfl rfl rfl ?_ | refine tq_val (fun _ H => ov_load_blkN H.get2 rfl (Try.isAgg40 _) (Try.sizeOf40 _) rfl rfl rfl) rfl rfl rfl ?_ | refine tq_val (fun _ H => ov_load_blkN H.get3 rfl (Try.isAgg40 _) (Try.sizeOf40 _) rfl rfl rfl) rfl rfl rfl ?_ | refine tq_val (fun _ H => ov_load_blkN H.get4 rfl (Try.isAgg40 _) (Try.sizeOf40 _) rfl rfl rfl) rfl rfl rfl ?_ | refine tq_val (fun _ H => ov_load_blkN H.get5 rfl (Try.isAgg40 _) (Try.sizeOf40 _) rfl rfl rfl) rfl rfl rfl ?_
        refine tq_call (fun _ H => (Right_c (gt L i) _).mono (fun _ _ hq => ⟨hq.1, H.call0n hq.2⟩)) rfl rfl rfl Try.call35 rfl rfl rfl ?_
        first | refine tq_val (fun _ H => ov_load_blkN H.get0 rfl (Try.isAgg40 _) (Try.sizeOf40 _) rfl rfl rfl) rfl rfl rfl ?_ | refine tq_val (fun _ H => ov_load_blkN H.get1 rfl (Try.isAgg40 _) (Try.sizeOf40 _) rfl rfl rfl) rfl rfl rfl ?_ | refine tq_val (fun _ H => ov_load_blkN H.get2 rfl (Try.isAgg40 _) (Try.sizeOf40 _) rfl rfl rfl) rfl rfl rfl ?_ | refine tq_val (fun _ H => ov_load_blkN H.get3 rfl (Try.isAgg40 _) (Try.sizeOf40 _) rfl rfl rfl) rfl rfl rfl ?_ | refine tq_val (fun _ H => ov_load_blkN H.get4 rfl (Try.isAgg40 _) (Try.sizeOf40 _) rfl rfl rfl) rfl rfl rfl ?_ | refine tq_val (fun _ H => ov_load_blkN H.get5 rfl (Try.isAgg40 _) (Try.sizeOf40 _) rfl rfl rfl) rfl rfl rfl ?_
        refine tq_call (fun _ H => (RightR_c (gt L i) _).mono (fun _ _ hq => ⟨hq.1, H.call0n hq.2⟩)) rfl rfl rfl Try.call42 rfl rfl rfl ?_
        refine tq_val (fun _ H => ov_neqb rfl Try.underlying4 rfl rfl) rfl rfl rfl ?_
        refine tq_nil ?_
        intro w6 H
        refine hK13 _ _ (TrC.keep [34, 10, 27, 26, 25, 24, 22, 0, 1, 2, 3] ?_)
        show TrC _ _ _ _ [(34, _), (10, _), (27, _), (26, _), (25, _), (24, _), (22, _), (0, _), (1, _), (2, _), (3, _)] _ _
        first | refine tr_cond rfl (fun c34 => ?_) (fun c34 => ?_) | refine tr_condb rfl (fun c34 => ?_) (fun c34 => ?_)
        · simp at c34
        · skip
          refine tr_skip (hK11 _ _ (TrC.keep [34, 10, 27, 26, 25, 24, 22, 0, 1, 2, 3] ?_))
          show TrC _ _ _ _ [(34, _), (10, _), (27, _), (26, _), (25, _), (24, _), (22, _), (0, _), (1, _), (2, _), (3, _)] _ _
          -- region 8: law.go:22
          refine tr_region ?_
          refine tr_val (ov_add rfl rfl rfl (w64 (by omega))) rfl rfl rfl ?_
          refine tr_val (ov_move rfl rfl) rfl rfl rfl ?_
          skip
          exact tr_nil (hK8 (i + 1) _ _ (⟨by omega, by omega, H.drop0⟩) (by first | omega | (dsimp only; omega)) (Sub.cons rfl (Sub.cons rfl (Sub.cons rfl (Sub.cons rfl (Sub.cons rfl (Sub.cons rfl (Sub.cons rfl (Sub.cons rfl Sub.nil)))))))))
      · skip
        refine tr_exit (hK6 _ _ (TrC.keep [27, 26, 25, 24, 22, 0, 1, 2, 3] ?_))
        show TrC _ _ _ _ [(27, _), (26, _), (25, _), (24, _), (22, _), (0, _), (1, _), (2, _), (3, _)] _ _
        refine tr_seq (fun K14 hK14 => ?_)
        -- region 9: law.go:27
        refine tr_region ?_
        refine tr_val (ov_move rfl rfl) rfl rfl rfl ?_
        refine tr_val (ov_move rfl rfl) rfl rfl rfl ?_
        refine tr_call (Add_c a b _ ha hb) rfl rfl rfl Try.call43 rfl rfl rfl ?_
        rintro _ w7 ⟨rfl, HC⟩
        have H := H.call0n HC
        refine tr_val (ov_move rfl rfl) rfl rfl rfl ?_
        refine tr_val (ov_extract rfl rfl rfl) rfl rfl rfl ?_
        refine tr_val (ov_extract rfl rfl rfl) rfl rfl rfl ?_
        refine tr_val (ov_assign rfl rfl) rfl rfl rfl ?_
        refine tr_val (ov_assign rfl rfl) rfl rfl rfl ?_
        refine tr_nil (hK14 _ _ (TrC.keep [12, 11, 27, 26, 25, 24, 22, 0, 1, 2, 3] ?_))
        show TrC _ _ _ _ [(12, _), (11, _), (27, _), (26, _), (25, _), (24, _), (22, _), (0, _), (1, _), (2, _), (3, _)] _ _
        refine tr_seq (fun K15 hK15 => ?_)
        -- region 10: law.go:28
        refine tr_region ?_
        refine tr_val (ov_move rfl rfl) rfl rfl rfl ?_
        refine tr_val (ov_move rfl rfl) rfl rfl rfl ?_
        refine tr_call (AddR_c a b _ ha hb) rfl rfl rfl Try.call44 rfl rfl rfl ?_
        rintro _ w8 ⟨rfl, HC⟩
        have H := H.call0n HC
        refine tr_val (ov_move rfl rfl) rfl rfl rfl ?_
        refine tr_val (ov_extract rfl rfl rfl) rfl rfl rfl ?_
        refine tr_val (ov_extract rfl rfl rfl) rfl rfl rfl ?_
        refine tr_val (ov_assign rfl rfl) rfl rfl rfl ?_
        refine tr_val (ov_assign rfl rfl) rfl rfl rfl ?_
        refine tr_nil (hK15 _ _ (TrC.keep [14, 13, 12, 11, 27, 26, 25, 24, 22, 0, 1, 2, 3] ?_))
        show TrC _ _ _ _ [(14, _), (13, _), (12, _), (11, _), (27, _), (26, _), (25, _), (24, _), (22, _), (0, _), (1, _), (2, _), (3, _)] _ _
        refine tr_seq (fun K16 hK16 => ?_)
        -- region 11: law.go:29
        refine tr_region ?_
        refine tr_val (ov_move rfl rfl) rfl rfl rfl ?_
        refine tr_call (Row_c A c L _ (H.rd0 hR) hL) rfl rfl rfl Try.call38 rfl rfl rfl ?_
        rintro _ w9 ⟨rfl, HC⟩
        have H := H.call0n HC
        refine tr_val (ov_move rfl rfl) rfl rfl rfl ?_
        refine tr_call (RowR_c A c L _ (H.rd0 hR) hL) rfl rfl rfl Try.call19 rfl rfl rfl ?_
        rintro _ w10 ⟨rfl, HC⟩
        have H := H.call0n HC
        refine tr_val (ov_eql rfl rfl rfl) rfl rfl rfl ?_
        refine tr_val (ov_move rfl rfl) rfl rfl rfl ?_
        first | refine tr_split (t := 53) rfl (fun s53 => ?_) (fun s53 => ?_) | refine tr_splitb (t := 53) rfl (fun s53 => ?_) (fun s53 => ?_)
        · skip
          refine tr_val (ov_move rfl rfl) rfl rfl rfl ?_
          refine tr_val (ov_move rfl rfl) rfl rfl rfl ?_
          refine tr_call (Same_c A c L _ (H.rd0 hR) hL A2 c2 M (H.rd0 hR2) hM) rfl rfl rfl Try.call45 rfl rfl rfl ?_
          rintro _ w11 ⟨rfl, HC⟩
          have H := H.call0n HC
          refine tr_val (ov_move rfl rfl) rfl rfl rfl ?_
          refine tr_val (ov_move rfl rfl) rfl rfl rfl ?_
          refine tr_call (SameR_c A c L _ (H.rd0 hR) hL A2 c2 M (H.rd0 hR2) hM) rfl rfl rfl Try.call24 rfl rfl rfl ?_
          rintro _ w12 ⟨rfl, HC⟩
          have H := H.call0n HC
          refine tr_val (ov_eqlb rfl Try.underlying4 rfl rfl) rfl rfl rfl ?_
          refine tr_val (ov_pick (vb := undef) rfl rfl rfl rfl) rfl rfl rfl ?_
          refine tr_val (ov_move rfl rfl) rfl rfl rfl ?_
          first | refine tr_split (t := 62) rfl (fun s62 => ?_) (fun s62 => ?_) | refine tr_splitb (t := 62) rfl (fun s62 => ?_) (fun s62 => ?_)
          · skip
            refine tr_val (ov_move rfl rfl) rfl rfl rfl ?_
            refine tr_val (ov_move rfl rfl) rfl rfl rfl ?_
            refine tr_call (Same_c A c L _ (H.rd0 hR) hL A c L (H.rd0 hR) hL) rfl rfl rfl Try.call45 rfl rfl rfl ?_
            rintro _ w13 ⟨rfl, HC⟩
            have H := H.call0n HC
            refine tr_val (ov_pick (vb := undef) rfl rfl rfl rfl) rfl rfl rfl ?_
            refine tr_val (ov_move rfl rfl) rfl rfl rfl ?_
            first | refine tr_split (t := 67) rfl (fun s67 => ?_) (fun s67 => ?_) | refine tr_splitb (t := 67) rfl (fun s67 => ?_) (fun s67 => ?_)
            · skip
              refine tr_val (ov_move rfl rfl) rfl rfl rfl ?_
              refine tr_val (ov_move rfl rfl) rfl rfl rfl ?_
              refine tr_val (ov_eql rfl rfl rfl) rfl rfl rfl ?_
              refine tr_val (ov_pick (vb := undef) rfl rfl rfl rfl) rfl rfl rfl ?_
              refine tr_val (ov_move rfl rfl) rfl rfl rfl ?_
              first | refine tr_split (t := 72) rfl (fun s72 => ?_) (fun s72 => ?_) | refine tr_splitb (t := 72) rfl (fun s72 => ?_) (fun s72 => ?_)
              · skip
                refine tr_val (ov_move rfl rfl) rfl rfl rfl ?_
                refine tr_val (ov_move rfl rfl) rfl rfl rfl ?_
                refine tr_val (ov_eql rfl rfl rfl) rfl rfl rfl ?_
                refine tr_val (ov_pick (vb := undef) rfl rfl rfl rfl) rfl rfl rfl ?_
                refine tr_val (ov_move rfl rfl) rfl rfl rfl ?_
                first | refine tr_split (t := 77) rfl (fun s77 => ?_) (fun s77 => ?_) | refine tr_splitb (t := 77) rfl (fun s77 => ?_) (fun s77 => ?_)
                · skip
                  refine tr_call (lives07_c _) rfl rfl rfl Try.call34 rfl rfl rfl ?_
                  rintro _ w14 ⟨rfl, HC⟩
                  have H := H.call0n HC
                  refine tr_val (ov_pick (vb := undef) rfl rfl rfl rfl) rfl rfl rfl ?_
                  refine tr_val (ov_assign rfl rfl) rfl rfl rfl ?_
                  refine tr_nil (hK16 _ _ (TrC.keep [8, 27, 26, 25, 24, 22, 0, 1, 2, 3] ?_))
                  show TrC _ _ _ _ [(8, _), (27, _), (26, _), (25, _), (24, _), (22, _), (0, _), (1, _), (2, _), (3, _)] _ _
                  refine tr_ret (post_ret1 (.inr rfl) rfl rfl ?_)
                  exact ⟨rfl, H⟩
                · exact absurd rfl s77
              · exact absurd rfl s72
            · exact absurd rfl s67
          · simp at s62
        · exact absurd rfl s53

/-! curfew/curfewlaw07.SpanSides -/
set_option maxRecDepth 20000 in
theorem SpanSides_c (A : Option Addr) (c : Nat) (L : List Sp) (w : World) (hR : Rd w A 2 (L.map encSpan)) (x n : Int) (hn : -9223372036854775808 ≤ n ∧ n ≤ 9223372036854775807) : Does Try.prog 9 #[.slice A L.length c, .int .i64 x, .int .i64 n] w (fun v w' => v = .bool true ∧ SH w noBlocks [] w') := by
  have hL : L.length ≤ 100 → L.length ≤ 4294967296 := fun h => by omega
  refine does_enter3 Try.func9 rfl Try.ntmps9 rfl ?_
  have H := SH.start w noBlocks
  refine tr_seq (fun K1 hK1 => ?_)
  -- region 0: law.go:54
  refine tr_region ?_
  refine tr_val (ov_assign rfl rfl) rfl rfl rfl ?_
  refine tr_nil (hK1 _ _ (TrC.keep [6, 0, 1, 2] ?_))
  show TrC _ _ _ _ [(6, _), (0, _), (1, _), (2, _)] _ _
  refine tr_seq (fun K2 hK2 => ?_)
  refine tr_seq (fun K3 hK3 => ?_)
  -- region 1: law.go:55
  refine tr_region ?_
  refine tr_val (ov_move rfl rfl) rfl rfl rfl ?_
  refine tr_val (ov_len rfl rfl Try.underlying33 rfl) rfl rfl rfl ?_
  refine tr_val (ov_gtr rfl rfl rfl) rfl rfl rfl ?_
  refine tr_val (ov_move rfl rfl) rfl rfl rfl ?_
  first | refine tr_split (t := 13) rfl (fun s13 => ?_) (fun s13 => ?_) | refine tr_splitb (t := 13) rfl (fun s13 => ?_) (fun s13 => ?_)
  · skip
    refine tr_pass rfl rfl rfl ?_
    refine tr_pass rfl rfl rfl ?_
    refine tr_pass rfl rfl rfl ?_
    refine tr_val (ov_pick (vb := undef) rfl rfl rfl rfl) rfl rfl rfl ?_
    refine tr_val (ov_move rfl rfl) rfl rfl rfl ?_
    refine tr_pass rfl rfl rfl ?_
    refine tr_pass rfl rfl rfl ?_
    refine tr_val (ov_pick (vb := undef) rfl rfl rfl rfl) rfl rfl rfl ?_
    refine tr_val (ov_move rfl rfl) rfl rfl rfl ?_
    refine tr_pass rfl rfl rfl ?_
    refine tr_pass rfl rfl rfl ?_
    refine tr_val (ov_pick (vb := undef) rfl rfl rfl rfl) rfl rfl rfl ?_
    refine tr_nil (hK3 _ _ (TrC.keep [25, 6, 0, 1, 2] ?_))
    show TrC _ _ _ _ [(25, _), (6, _), (0, _), (1, _), (2, _)] _ _
    refine tr_cond_t rfl rfl ?_
    refine tr_seq (fun K4 hK4 => ?_)
    -- region 2: law.go:56
    refine tr_region ?_
    refine tr_call (lives07_c _) rfl rfl rfl Try.call34 rfl rfl rfl ?_
    rintro _ w1 ⟨rfl, HC⟩
    have H := H.call0n HC
    refine tr_val (ov_assign rfl rfl) rfl rfl rfl ?_
    refine tr_nil (hK4 _ _ (TrC.keep [6, 25, 0, 1, 2] ?_))
    show TrC _ _ _ _ [(6, _), (25, _), (0, _), (1, _), (2, _)] _ _
    refine tr_ret (post_ret1 (.inr rfl) rfl rfl ?_)
    exact ⟨rfl, H⟩
  · skip
    refine tr_val (ov_move rfl rfl) rfl rfl rfl ?_
    refine tr_call (Row_c A c L _ (H.rd0 hR) (by omega)) rfl rfl rfl Try.call38 rfl rfl rfl ?_
    rintro _ w2 ⟨rfl, HC⟩
    have H := H.call0n HC
    refine tr_val (ov_neq rfl rfl rfl) rfl rfl rfl ?_
    refine tr_val (ov_pick_f (va := undef) rfl rfl rfl rfl) rfl rfl rfl ?_
    refine tr_val (ov_move rfl rfl) rfl rfl rfl ?_
    first | refine tr_split (t := 18) rfl (fun s18 => ?_) (fun s18 => ?_) | refine tr_splitb (t := 18) rfl (fun s18 => ?_) (fun s18 => ?_)
    · skip
      refine tr_pass rfl rfl rfl ?_
      refine tr_pass rfl rfl rfl ?_
      refine tr_val (ov_pick (vb := undef) rfl rfl rfl rfl) rfl rfl rfl ?_
      refine tr_val (ov_move rfl rfl) rfl rfl rfl ?_
      refine tr_pass rfl rfl rfl ?_
      refine tr_pass rfl rfl rfl ?_
      refine tr_val (ov_pick (vb := undef) rfl rfl rfl rfl) rfl rfl rfl ?_
      refine tr_nil (hK3 _ _ (TrC.keep [25, 6, 0, 1, 2] ?_))
      show TrC _ _ _ _ [(25, _), (6, _), (0, _), (1, _), (2, _)] _ _
      refine tr_cond_t rfl rfl ?_
      refine tr_seq (fun K5 hK5 => ?_)
      -- region 2: law.go:56
      refine tr_region ?_
      refine tr_call (lives07_c _) rfl rfl rfl Try.call34 rfl rfl rfl ?_
      rintro _ w3 ⟨rfl, HC⟩
      have H := H.call0n HC
      refine tr_val (ov_assign rfl rfl) rfl rfl rfl ?_
      refine tr_nil (hK5 _ _ (TrC.keep [6, 25, 0, 1, 2] ?_))
      show TrC _ _ _ _ [(6, _), (25, _), (0, _), (1, _), (2, _)] _ _
      refine tr_ret (post_ret1 (.inr rfl) rfl rfl ?_)
      exact ⟨rfl, H⟩
    · skip
      refine tr_val (ov_move rfl rfl) rfl rfl rfl ?_
      refine tr_val (ov_lss rfl rfl rfl) rfl rfl rfl ?_
      refine tr_val (ov_pick_f (va := undef) rfl rfl rfl rfl) rfl rfl rfl ?_
      refine tr_val (ov_move rfl rfl) rfl rfl rfl ?_
      first | refine tr_split (t := 22) rfl (fun s22 => ?_) (fun s22 => ?_) | refine tr_splitb (t := 22) rfl (fun s22 => ?_) (fun s22 => ?_)
      · skip
        refine tr_pass rfl rfl rfl ?_
        refine tr_pass rfl rfl rfl ?_
        refine tr_val (ov_pick (vb := undef) rfl rfl rfl rfl) rfl rfl rfl ?_
        refine tr_nil (hK3 _ _ (TrC.keep [25, 6, 0, 1, 2] ?_))
        show TrC _ _ _ _ [(25, _), (6, _), (0, _), (1, _), (2, _)] _ _
        refine tr_cond_t rfl rfl ?_
        refine tr_seq (fun K6 hK6 => ?_)
        -- region 2: law.go:56
        refine tr_region ?_
        refine tr_call (lives07_c _) rfl rfl rfl Try.call34 rfl rfl rfl ?_
        rintro _ w4 ⟨rfl, HC⟩
        have H := H.call0n HC
        refine tr_val (ov_assign rfl rfl) rfl rfl rfl ?_
        refine tr_nil (hK6 _ _ (TrC.keep [6, 25, 0, 1, 2] ?_))
        show TrC _ _ _ _ [(6, _), (25, _), (0, _), (1, _), (2, _)] _ _
        refine tr_ret (post_ret1 (.inr rfl) rfl rfl ?_)
        exact ⟨rfl, H⟩
      · skip
        refine tr_val (ov_move rfl rfl) rfl rfl rfl ?_
        refine tr_val (ov_gtr rfl rfl rfl) rfl rfl rfl ?_
        refine tr_val (ov_pick_f (va := undef) rfl rfl rfl rfl) rfl rfl rfl ?_
        refine tr_nil (hK3 _ _ (TrC.keep [25, 6, 0, 1, 2] ?_))
        show TrC _ _ _ _ [(25, _), (6, _), (0, _), (1, _), (2, _)] _ _
        first | refine tr_cond rfl (fun c25 => ?_) (fun c25 => ?_) | refine tr_condb rfl (fun c25 => ?_) (fun c25 => ?_)
        · skip
          refine tr_seq (fun K7 hK7 => ?_)
          -- region 2: law.go:56
          refine tr_region ?_
          refine tr_call (lives07_c _) rfl rfl rfl Try.call34 rfl rfl rfl ?_
          rintro _ w5 ⟨rfl, HC⟩
          have H := H.call0n HC
          refine tr_val (ov_assign rfl rfl) rfl rfl rfl ?_
          refine tr_nil (hK7 _ _ (TrC.keep [6, 25, 0, 1, 2] ?_))
          show TrC _ _ _ _ [(6, _), (25, _), (0, _), (1, _), (2, _)] _ _
          refine tr_ret (post_ret1 (.inr rfl) rfl rfl ?_)
          exact ⟨rfl, H⟩
        · skip
          refine tr_skip (hK2 _ _ (TrC.keep [25, 6, 0, 1, 2] ?_))
          show TrC _ _ _ _ [(25, _), (6, _), (0, _), (1, _), (2, _)] _ _
          refine tr_seq (fun K8 hK8 => ?_)
          refine tr_seq (fun K9 hK9 => ?_)
          -- region 3: law.go:58
          have hrow : rowV L = 0 := by omega
          have hL : L.length ≤ 4294967296 := by have := (rowV_zero hrow).1; omega
          have hx0 : 0 ≤ x := by omega
          have hx1 : x ≤ 1125899906842624 := by omega
          have hs := within_sides hrow hx0 hx1
          have b1 := within_bd hrow 0 x
          have b2 := within_bd hrow x 1125899906842624
          have b3 := within_bd hrow 0 1125899906842624
          refine tr_region ?_
          refine tr_val (ov_move rfl rfl) rfl rfl rfl ?_
          refine tr_val (ov_move rfl rfl) rfl rfl rfl ?_
          refine tr_call (Within_c A c L _ (H.rd0 hR) hL (0) (x)) rfl rfl rfl Try.call39 rfl rfl rfl ?_
          rintro _ w6 ⟨rfl, HC⟩
          have H := H.call0n HC
          refine tr_val (ov_move rfl rfl) rfl rfl rfl ?_
          refine tr_val (ov_move rfl rfl) rfl rfl rfl ?_
          refine tr_call (Within_c A c L _ (H.rd0 hR) hL (x) (1125899906842624)) rfl rfl rfl Try.call39 rfl rfl rfl ?_
          rintro _ w7 ⟨rfl, HC⟩
          have H := H.call0n HC
          refine tr_val (ov_add rfl rfl rfl (w64 (by omega))) rfl rfl rfl ?_
          refine tr_val (ov_move rfl rfl) rfl rfl rfl ?_
          refine tr_call (Len_c A c L _ (H.rd0 hR) hL) rfl rfl rfl Try.call40 rfl rfl rfl ?_
          rintro _ w8 ⟨rfl, HC⟩
          have H := H.call0n HC
          refine tr_val (ov_neq rfl rfl rfl) rfl rfl rfl ?_
          refine tr_nil (hK9 _ _ (TrC.keep [36, 25, 6, 0, 1, 2] ?_))
          show TrC _ _ _ _ [(36, _), (25, _), (6, _), (0, _), (1, _), (2, _)] _ _
          first | refine tr_cond rfl (fun c36 => ?_) (fun c36 => ?_) | refine tr_condb rfl (fun c36 => ?_) (fun c36 => ?_)
          · exact absurd hs c36
          · skip
            refine tr_skip (hK8 _ _ (TrC.keep [36, 25, 6, 0, 1, 2] ?_))
            show TrC _ _ _ _ [(36, _), (25, _), (6, _), (0, _), (1, _), (2, _)] _ _
            refine tr_seq (fun K10 hK10 => ?_)
            -- region 5: law.go:61
            refine tr_region ?_
            refine tr_val (ov_move rfl rfl) rfl rfl rfl ?_
            refine tr_val (ov_move rfl rfl) rfl rfl rfl ?_
            refine tr_call (Nth_c A c L _ (H.rd0 hR) hL n hn) rfl rfl rfl Try.call41 rfl rfl rfl ?_
            rintro _ w9 ⟨rfl, HC⟩
            have H := H.call0n HC
            rw [nthT_eq]
            refine tr_val (ov_move rfl rfl) rfl rfl rfl ?_
            refine tr_val (ov_extract rfl rfl rfl) rfl rfl rfl ?_
            refine tr_val (ov_extract rfl rfl rfl) rfl rfl rfl ?_
            refine tr_val (ov_assign rfl rfl) rfl rfl rfl ?_
            refine tr_val (ov_assign rfl rfl) rfl rfl rfl ?_
            refine tr_nil (hK10 _ _ (TrC.keep [8, 7, 36, 25, 6, 0, 1, 2] ?_))
            show TrC _ _ _ _ [(8, _), (7, _), (36, _), (25, _), (6, _), (0, _), (1, _), (2, _)] _ _
            refine tr_seq (fun K11 hK11 => ?_)
            refine tr_seq (fun K12 hK12 => ?_)
            -- region 6: law.go:62
            refine tr_region ?_
            refine tr_val (ov_move rfl rfl) rfl rfl rfl ?_
            refine tr_val (ov_move rfl rfl) rfl rfl rfl ?_
            refine tr_val (ov_geq rfl rfl rfl) rfl rfl rfl ?_
            refine tr_val (ov_move rfl rfl) rfl rfl rfl ?_
            first | refine tr_split (t := 46) rfl (fun s46 => ?_) (fun s46 => ?_) | refine tr_splitb (t := 46) rfl (fun s46 => ?_) (fun s46 => ?_)
            · skip
              refine tr_val (ov_move rfl rfl) rfl rfl rfl ?_
              refine tr_val (ov_move rfl rfl) rfl rfl rfl ?_
              refine tr_call (Len_c A c L _ (H.rd0 hR) hL) rfl rfl rfl Try.call40 rfl rfl rfl ?_
              rintro _ w10 ⟨rfl, HC⟩
              have H := H.call0n HC
              refine tr_val (ov_lss rfl rfl rfl) rfl rfl rfl ?_
              refine tr_val (ov_pick (vb := undef) rfl rfl rfl rfl) rfl rfl rfl ?_
              refine tr_val (ov_neqb rfl Try.underlying4 rfl rfl) rfl rfl rfl ?_
              refine tr_nil (hK12 _ _ (TrC.keep [52, 8, 7, 36, 25, 6, 0, 1, 2] ?_))
              show TrC _ _ _ _ [(52, _), (8, _), (7, _), (36, _), (25, _), (6, _), (0, _), (1, _), (2, _)] _ _
              first | refine tr_cond rfl (fun c52 => ?_) (fun c52 => ?_) | refine tr_condb rfl (fun c52 => ?_) (fun c52 => ?_)
              · exfalso; rw [nth_some hrow] at c52; simp at c52; omega
              · skip
                refine tr_skip (hK11 _ _ (TrC.keep [52, 8, 7, 36, 25, 6, 0, 1, 2] ?_))
                show TrC _ _ _ _ [(52, _), (8, _), (7, _), (36, _), (25, _), (6, _), (0, _), (1, _), (2, _)] _ _
                refine tr_seq (fun K13 hK13 => ?_)
                refine tr_seq (fun K14 hK14 => ?_)
                -- region 8: law.go:65
                refine tr_region ?_
                refine tr_val (ov_move rfl rfl) rfl rfl rfl ?_
                refine tr_val (ov_move rfl rfl) rfl rfl rfl ?_
                first | refine tr_split (t := 54) rfl (fun s54 => ?_) (fun s54 => ?_) | refine tr_splitb (t := 54) rfl (fun s54 => ?_) (fun s54 => ?_)
                · obtain ⟨y, hy⟩ := Option.isSome_iff_exists.mp s54
                  have hnth := nth_has hrow hy
                  have hh : hasV L ((nthV L n).getD 0) = true := by rw [hy]; exact hnth.1
                  have hw : withinV L 0 ((nthV L n).getD 0) = n := by rw [hy]; exact hnth.2
                  refine tr_val (ov_move rfl rfl) rfl rfl rfl ?_
                  refine tr_val (ov_move rfl rfl) rfl rfl rfl ?_
                  refine tr_call (Has_c A c L _ (H.rd0 hR) hL _) rfl rfl rfl Try.call37 rfl rfl rfl ?_
                  rintro _ w11 ⟨rfl, HC⟩
                  have H := H.call0n HC
                  first | refine tr_val (ov_not rfl rfl) rfl rfl rfl ?_ | refine tr_val (ov_notb rfl rfl) rfl rfl rfl ?_
                  refine tr_val (ov_move rfl rfl) rfl rfl rfl ?_
                  first | refine tr_split (t := 59) rfl (fun s59 => ?_) (fun s59 => ?_) | refine tr_splitb (t := 59) rfl (fun s59 => ?_) (fun s59 => ?_)
                  · rw [hh] at s59; cases s59
                  · skip
                    refine tr_val (ov_move rfl rfl) rfl rfl rfl ?_
                    refine tr_val (ov_move rfl rfl) rfl rfl rfl ?_
                    refine tr_call (Within_c A c L _ (H.rd0 hR) hL (0) (_)) rfl rfl rfl Try.call39 rfl rfl rfl ?_
                    rintro _ w12 ⟨rfl, HC⟩
                    have H := H.call0n HC
                    refine tr_val (ov_move rfl rfl) rfl rfl rfl ?_
                    refine tr_val (ov_neq rfl rfl rfl) rfl rfl rfl ?_
                    refine tr_val (ov_pick_f (va := undef) rfl rfl rfl rfl) rfl rfl rfl ?_
                    refine tr_val (ov_pick (vb := undef) rfl rfl rfl rfl) rfl rfl rfl ?_
                    refine tr_nil (hK14 _ _ (TrC.keep [66, 52, 8, 36, 25, 6, 0, 1, 2] ?_))
                    show TrC _ _ _ _ [(66, _), (52, _), (8, _), (36, _), (25, _), (6, _), (0, _), (1, _), (2, _)] _ _
                    first | refine tr_cond rfl (fun c66 => ?_) (fun c66 => ?_) | refine tr_condb rfl (fun c66 => ?_) (fun c66 => ?_)
                    · exact absurd hw c66
                    · skip
                      refine tr_skip (hK13 _ _ (TrC.keep [66, 52, 8, 36, 25, 6, 0, 1, 2] ?_))
                      show TrC _ _ _ _ [(66, _), (52, _), (8, _), (36, _), (25, _), (6, _), (0, _), (1, _), (2, _)] _ _
                      refine tr_seq (fun K15 hK15 => ?_)
                      -- region 10: law.go:68
                      refine tr_region ?_
                      refine tr_val (ov_assign rfl rfl) rfl rfl rfl ?_
                      refine tr_nil (hK15 _ _ (TrC.keep [9, 66, 52, 8, 36, 25, 6, 0, 1, 2] ?_))
                      show TrC _ _ _ _ [(9, _), (66, _), (52, _), (8, _), (36, _), (25, _), (6, _), (0, _), (1, _), (2, _)] _ _
                      refine tr_seq (fun K16 hK16 => ?_)
                      refine tr_seq (fun K17 hK17 => ?_)
                      -- region 11: law.go:69
                      refine tr_region ?_
                      refine tr_val (ov_move rfl rfl) rfl rfl rfl ?_
                      refine tr_val (ov_move rfl rfl) rfl rfl rfl ?_
                      refine tr_call (Has_c A c L _ (H.rd0 hR) hL x) rfl rfl rfl Try.call37 rfl rfl rfl ?_
                      rintro _ w13 ⟨rfl, HC⟩
                      have H := H.call0n HC
                      refine tr_nil (hK17 _ _ (TrC.keep [69, 9, 66, 52, 8, 36, 25, 6, 0, 1, 2] ?_))
                      show TrC _ _ _ _ [(69, _), (9, _), (66, _), (52, _), (8, _), (36, _), (25, _), (6, _), (0, _), (1, _), (2, _)] _ _
                      first | refine tr_cond rfl (fun c69 => ?_) (fun c69 => ?_) | refine tr_condb rfl (fun c69 => ?_) (fun c69 => ?_)
                      · skip
                        -- region 12: law.go:70
                        refine tr_region ?_
                        refine tr_val (ov_assign rfl rfl) rfl rfl rfl ?_
                        refine tr_nil (hK16 _ _ (TrC.keep [9, 69, 66, 52, 8, 36, 25, 6, 0, 1, 2] ?_))
                        show TrC _ _ _ _ [(9, _), (69, _), (66, _), (52, _), (8, _), (36, _), (25, _), (6, _), (0, _), (1, _), (2, _)] _ _
                        refine tr_seq (fun K18 hK18 => ?_)
                        -- region 13: law.go:72
                        refine tr_region ?_
                        refine tr_val (ov_move rfl rfl) rfl rfl rfl ?_
                        refine tr_val (ov_eql rfl rfl rfl) rfl rfl rfl ?_
                        refine tr_val (ov_move rfl rfl) rfl rfl rfl ?_
                        first | refine tr_split (t := 72) rfl (fun s72 => ?_) (fun s72 => ?_) | refine tr_splitb (t := 72) rfl (fun s72 => ?_) (fun s72 => ?_)
                        · skip
                          refine tr_pass rfl rfl rfl ?_
                          refine tr_pass rfl rfl rfl ?_
                          refine tr_pass rfl rfl rfl ?_
                          refine tr_pass rfl rfl rfl ?_
                          refine tr_pass rfl rfl rfl ?_
                          refine tr_pass rfl rfl rfl ?_
                          refine tr_pass rfl rfl rfl ?_
                          refine tr_val (ov_pick (vb := undef) rfl rfl rfl rfl) rfl rfl rfl ?_
                          refine tr_val (ov_move rfl rfl) rfl rfl rfl ?_
                          refine tr_call (lives07_c _) rfl rfl rfl Try.call34 rfl rfl rfl ?_
                          rintro _ w14 ⟨rfl, HC⟩
                          have H := H.call0n HC
                          refine tr_val (ov_pick (vb := undef) rfl rfl rfl rfl) rfl rfl rfl ?_
                          refine tr_val (ov_assign rfl rfl) rfl rfl rfl ?_
                          refine tr_nil (hK18 _ _ (TrC.keep [6, 69, 66, 52, 8, 36, 25, 0, 1, 2] ?_))
                          show TrC _ _ _ _ [(6, _), (69, _), (66, _), (52, _), (8, _), (36, _), (25, _), (0, _), (1, _), (2, _)] _ _
                          refine tr_ret (post_ret1 (.inr rfl) rfl rfl ?_)
                          exact ⟨rfl, H⟩
                        · skip
                          refine tr_val (ov_move rfl rfl) rfl rfl rfl ?_
                          refine tr_val (ov_move rfl rfl) rfl rfl rfl ?_
                          refine tr_val (ov_move rfl rfl) rfl rfl rfl ?_
                          refine tr_val (ov_add rfl rfl rfl (w64 (by omega))) rfl rfl rfl ?_
                          refine tr_call (Within_c A c L _ (H.rd0 hR) hL (x) (x + 1)) rfl rfl rfl Try.call39 rfl rfl rfl ?_
                          rintro _ w15 ⟨rfl, HC⟩
                          have H := H.call0n HC
                          refine tr_val (ov_move rfl rfl) rfl rfl rfl ?_
                          refine tr_val (ov_eql rfl rfl rfl) rfl rfl rfl ?_
                          refine tr_val (ov_pick_f (va := undef) rfl rfl rfl rfl) rfl rfl rfl ?_
                          refine tr_val (ov_move rfl rfl) rfl rfl rfl ?_
                          first | refine tr_split (t := 81) rfl (fun s81 => ?_) (fun s81 => ?_) | refine tr_splitb (t := 81) rfl (fun s81 => ?_) (fun s81 => ?_)
                          · skip
                            refine tr_call (lives07_c _) rfl rfl rfl Try.call34 rfl rfl rfl ?_
                            rintro _ w16 ⟨rfl, HC⟩
                            have H := H.call0n HC
                            refine tr_val (ov_pick (vb := undef) rfl rfl rfl rfl) rfl rfl rfl ?_
                            refine tr_val (ov_assign rfl rfl) rfl rfl rfl ?_
                            refine tr_nil (hK18 _ _ (TrC.keep [6, 69, 66, 52, 8, 36, 25, 0, 1, 2] ?_))
                            show TrC _ _ _ _ [(6, _), (69, _), (66, _), (52, _), (8, _), (36, _), (25, _), (0, _), (1, _), (2, _)] _ _
                            refine tr_ret (post_ret1 (.inr rfl) rfl rfl ?_)
                            exact ⟨rfl, H⟩
                          · exfalso; have h1 := within_one (x := x) hrow; rw [c69] at h1; exact s81 h1
                      · skip
                        refine tr_skip (hK16 _ _ (TrC.keep [69, 9, 66, 52, 8, 36, 25, 6, 0, 1, 2] ?_))
                        show TrC _ _ _ _ [(69, _), (9, _), (66, _), (52, _), (8, _), (36, _), (25, _), (6, _), (0, _), (1, _), (2, _)] _ _
                        refine tr_seq (fun K19 hK19 => ?_)
                        -- region 13: law.go:72
                        refine tr_region ?_
                        refine tr_val (ov_move rfl rfl) rfl rfl rfl ?_
                        refine tr_val (ov_eql rfl rfl rfl) rfl rfl rfl ?_
                        refine tr_val (ov_move rfl rfl) rfl rfl rfl ?_
                        first | refine tr_split (t := 72) rfl (fun s72 => ?_) (fun s72 => ?_) | refine tr_splitb (t := 72) rfl (fun s72 => ?_) (fun s72 => ?_)
                        · skip
                          refine tr_pass rfl rfl rfl ?_
                          refine tr_pass rfl rfl rfl ?_
                          refine tr_pass rfl rfl rfl ?_
                          refine tr_pass rfl rfl rfl ?_
                          refine tr_pass rfl rfl rfl ?_
                          refine tr_pass rfl rfl rfl ?_
                          refine tr_pass rfl rfl rfl ?_
                          refine tr_val (ov_pick (vb := undef) rfl rfl rfl rfl) rfl rfl rfl ?_
                          refine tr_val (ov_move rfl rfl) rfl rfl rfl ?_
                          refine tr_call (lives07_c _) rfl rfl rfl Try.call34 rfl rfl rfl ?_
                          rintro _ w17 ⟨rfl, HC⟩
                          have H := H.call0n HC
                          refine tr_val (ov_pick (vb := undef) rfl rfl rfl rfl) rfl rfl rfl ?_
                          refine tr_val (ov_assign rfl rfl) rfl rfl rfl ?_
                          refine tr_nil (hK19 _ _ (TrC.keep [6, 69, 66, 52, 8, 36, 25, 0, 1, 2] ?_))
                          show TrC _ _ _ _ [(6, _), (69, _), (66, _), (52, _), (8, _), (36, _), (25, _), (0, _), (1, _), (2, _)] _ _
                          refine tr_ret (post_ret1 (.inr rfl) rfl rfl ?_)
                          exact ⟨rfl, H⟩
                        · skip
                          refine tr_val (ov_move rfl rfl) rfl rfl rfl ?_
                          refine tr_val (ov_move rfl rfl) rfl rfl rfl ?_
                          refine tr_val (ov_move rfl rfl) rfl rfl rfl ?_
                          refine tr_val (ov_add rfl rfl rfl (w64 (by omega))) rfl rfl rfl ?_
                          refine tr_call (Within_c A c L _ (H.rd0 hR) hL (x) (x + 1)) rfl rfl rfl Try.call39 rfl rfl rfl ?_
                          rintro _ w18 ⟨rfl, HC⟩
                          have H := H.call0n HC
                          refine tr_val (ov_move rfl rfl) rfl rfl rfl ?_
                          refine tr_val (ov_eql rfl rfl rfl) rfl rfl rfl ?_
                          refine tr_val (ov_pick_f (va := undef) rfl rfl rfl rfl) rfl rfl rfl ?_
                          refine tr_val (ov_move rfl rfl) rfl rfl rfl ?_
                          first | refine tr_split (t := 81) rfl (fun s81 => ?_) (fun s81 => ?_) | refine tr_splitb (t := 81) rfl (fun s81 => ?_) (fun s81 => ?_)
                          · skip
                            refine tr_call (lives07_c _) rfl rfl rfl Try.call34 rfl rfl rfl ?_
                            rintro _ w19 ⟨rfl, HC⟩
                            have H := H.call0n HC
                            refine tr_val (ov_pick (vb := undef) rfl rfl rfl rfl) rfl rfl rfl ?_
                            refine tr_val (ov_assign rfl rfl) rfl rfl rfl ?_
                            refine tr_nil (hK19 _ _ (TrC.keep [6, 69, 66, 52, 8, 36, 25, 0, 1, 2] ?_))
                            show TrC _ _ _ _ [(6, _), (69, _), (66, _), (52, _), (8, _), (36, _), (25, _), (0, _), (1, _), (2, _)] _ _
                            refine tr_ret (post_ret1 (.inr rfl) rfl rfl ?_)
                            exact ⟨rfl, H⟩
                          · exfalso; have h1 := within_one (x := x) hrow; rw [c69] at h1; exact s81 h1
                · skip
                  refine tr_pass rfl rfl rfl ?_
                  refine tr_pass rfl rfl rfl ?_
                  refine tr_pass rfl rfl rfl ?_
                  refine tr_pass rfl rfl rfl ?_
                  refine tr_pass rfl rfl rfl ?_
                  refine tr_pass rfl rfl rfl ?_
                  refine tr_pass rfl rfl rfl ?_
                  refine tr_pass rfl rfl rfl ?_
                  refine tr_pass rfl rfl rfl ?_
                  refine tr_pass rfl rfl rfl ?_
                  refine tr_pass rfl rfl rfl ?_
                  refine tr_val (ov_pick_f (va := undef) rfl rfl rfl rfl) rfl rfl rfl ?_
                  refine tr_nil (hK14 _ _ (TrC.keep [66, 52, 8, 36, 25, 6, 0, 1, 2] ?_))
                  show TrC _ _ _ _ [(66, _), (52, _), (8, _), (36, _), (25, _), (6, _), (0, _), (1, _), (2, _)] _ _
                  refine tr_cond_f rfl rfl ?_
                  refine tr_skip (hK13 _ _ (TrC.keep [66, 52, 8, 36, 25, 6, 0, 1, 2] ?_))
                  show TrC _ _ _ _ [(66, _), (52, _), (8, _), (36, _), (25, _), (6, _), (0, _), (1, _), (2, _)] _ _
                  refine tr_seq (fun K20 hK20 => ?_)
                  -- region 10: law.go:68
                  refine tr_region ?_
                  refine tr_val (ov_assign rfl rfl) rfl rfl rfl ?_
                  refine tr_nil (hK20 _ _ (TrC.keep [9, 66, 52, 8, 36, 25, 6, 0, 1, 2] ?_))
                  show TrC _ _ _ _ [(9, _), (66, _), (52, _), (8, _), (36, _), (25, _), (6, _), (0, _), (1, _), (2, _)] _ _
                  refine tr_seq (fun K21 hK21 => ?_)
                  refine tr_seq (fun K22 hK22 => ?_)
                  -- region 11: law.go:69
                  refine tr_region ?_
                  refine tr_val (ov_move rfl rfl) rfl rfl rfl ?_
                  refine tr_val (ov_move rfl rfl) rfl rfl rfl ?_
                  refine tr_call (Has_c A c L _ (H.rd0 hR) hL x) rfl rfl rfl Try.call37 rfl rfl rfl ?_
                  rintro _ w20 ⟨rfl, HC⟩
                  have H := H.call0n HC
                  refine tr_nil (hK22 _ _ (TrC.keep [69, 9, 66, 52, 8, 36, 25, 6, 0, 1, 2] ?_))
                  show TrC _ _ _ _ [(69, _), (9, _), (66, _), (52, _), (8, _), (36, _), (25, _), (6, _), (0, _), (1, _), (2, _)] _ _
                  first | refine tr_cond rfl (fun c69 => ?_) (fun c69 => ?_) | refine tr_condb rfl (fun c69 => ?_) (fun c69 => ?_)
                  · skip
                    -- region 12: law.go:70
                    refine tr_region ?_
                    refine tr_val (ov_assign rfl rfl) rfl rfl rfl ?_
                    refine tr_nil (hK21 _ _ (TrC.keep [9, 69, 66, 52, 8, 36, 25, 6, 0, 1, 2] ?_))
                    show TrC _ _ _ _ [(9, _), (69, _), (66, _), (52, _), (8, _), (36, _), (25, _), (6, _), (0, _), (1, _), (2, _)] _ _
                    refine tr_seq (fun K23 hK23 => ?_)
                    -- region 13: law.go:72
                    refine tr_region ?_
                    refine tr_val (ov_move rfl rfl) rfl rfl rfl ?_
                    refine tr_val (ov_eql rfl rfl rfl) rfl rfl rfl ?_
                    refine tr_val (ov_move rfl rfl) rfl rfl rfl ?_
                    first | refine tr_split (t := 72) rfl (fun s72 => ?_) (fun s72 => ?_) | refine tr_splitb (t := 72) rfl (fun s72 => ?_) (fun s72 => ?_)
                    · skip
                      refine tr_pass rfl rfl rfl ?_
                      refine tr_pass rfl rfl rfl ?_
                      refine tr_pass rfl rfl rfl ?_
                      refine tr_pass rfl rfl rfl ?_
                      refine tr_pass rfl rfl rfl ?_
                      refine tr_pass rfl rfl rfl ?_
                      refine tr_pass rfl rfl rfl ?_
                      refine tr_val (ov_pick (vb := undef) rfl rfl rfl rfl) rfl rfl rfl ?_
                      refine tr_val (ov_move rfl rfl) rfl rfl rfl ?_
                      refine tr_call (lives07_c _) rfl rfl rfl Try.call34 rfl rfl rfl ?_
                      rintro _ w21 ⟨rfl, HC⟩
                      have H := H.call0n HC
                      refine tr_val (ov_pick (vb := undef) rfl rfl rfl rfl) rfl rfl rfl ?_
                      refine tr_val (ov_assign rfl rfl) rfl rfl rfl ?_
                      refine tr_nil (hK23 _ _ (TrC.keep [6, 69, 66, 52, 8, 36, 25, 0, 1, 2] ?_))
                      show TrC _ _ _ _ [(6, _), (69, _), (66, _), (52, _), (8, _), (36, _), (25, _), (0, _), (1, _), (2, _)] _ _
                      refine tr_ret (post_ret1 (.inr rfl) rfl rfl ?_)
                      exact ⟨rfl, H⟩
                    · skip
                      refine tr_val (ov_move rfl rfl) rfl rfl rfl ?_
                      refine tr_val (ov_move rfl rfl) rfl rfl rfl ?_
                      refine tr_val (ov_move rfl rfl) rfl rfl rfl ?_
                      refine tr_val (ov_add rfl rfl rfl (w64 (by omega))) rfl rfl rfl ?_
                      refine tr_call (Within_c A c L _ (H.rd0 hR) hL (x) (x + 1)) rfl rfl rfl Try.call39 rfl rfl rfl ?_
                      rintro _ w22 ⟨rfl, HC⟩
                      have H := H.call0n HC
                      refine tr_val (ov_move rfl rfl) rfl rfl rfl ?_
                      refine tr_val (ov_eql rfl rfl rfl) rfl rfl rfl ?_
                      refine tr_val (ov_pick_f (va := undef) rfl rfl rfl rfl) rfl rfl rfl ?_
                      refine tr_val (ov_move rfl rfl) rfl rfl rfl ?_
                      first | refine tr_split (t := 81) rfl (fun s81 => ?_) (fun s81 => ?_) | refine tr_splitb (t := 81) rfl (fun s81 => ?_) (fun s81 => ?_)
                      · skip
                        refine tr_call (lives07_c _) rfl rfl rfl Try.call34 rfl rfl rfl ?_
                        rintro _ w23 ⟨rfl, HC⟩
                        have H := H.call0n HC
                        refine tr_val (ov_pick (vb := undef) rfl rfl rfl rfl) rfl rfl rfl ?_
                        refine tr_val (ov_assign rfl rfl) rfl rfl rfl ?_
                        refine tr_nil (hK23 _ _ (TrC.keep [6, 69, 66, 52, 8, 36, 25, 0, 1, 2] ?_))
                        show TrC _ _ _ _ [(6, _), (69, _), (66, _), (52, _), (8, _), (36, _), (25, _), (0, _), (1, _), (2, _)] _ _
                        refine tr_ret (post_ret1 (.inr rfl) rfl rfl ?_)
                        exact ⟨rfl, H⟩
                      · exfalso; have h1 := within_one (x := x) hrow; rw [c69] at h1; exact s81 h1
                  · skip
                    refine tr_skip (hK21 _ _ (TrC.keep [69, 9, 66, 52, 8, 36, 25, 6, 0, 1, 2] ?_))
                    show TrC _ _ _ _ [(69, _), (9, _), (66, _), (52, _), (8, _), (36, _), (25, _), (6, _), (0, _), (1, _), (2, _)] _ _
                    refine tr_seq (fun K24 hK24 => ?_)
                    -- region 13: law.go:72
                    refine tr_region ?_
                    refine tr_val (ov_move rfl rfl) rfl rfl rfl ?_
                    refine tr_val (ov_eql rfl rfl rfl) rfl rfl rfl ?_
                    refine tr_val (ov_move rfl rfl) rfl rfl rfl ?_
                    first | refine tr_split (t := 72) rfl (fun s72 => ?_) (fun s72 => ?_) | refine tr_splitb (t := 72) rfl (fun s72 => ?_) (fun s72 => ?_)
                    · skip
                      refine tr_pass rfl rfl rfl ?_
                      refine tr_pass rfl rfl rfl ?_
                      refine tr_pass rfl rfl rfl ?_
                      refine tr_pass rfl rfl rfl ?_
                      refine tr_pass rfl rfl rfl ?_
                      refine tr_pass rfl rfl rfl ?_
                      refine tr_pass rfl rfl rfl ?_
                      refine tr_val (ov_pick (vb := undef) rfl rfl rfl rfl) rfl rfl rfl ?_
                      refine tr_val (ov_move rfl rfl) rfl rfl rfl ?_
                      refine tr_call (lives07_c _) rfl rfl rfl Try.call34 rfl rfl rfl ?_
                      rintro _ w24 ⟨rfl, HC⟩
                      have H := H.call0n HC
                      refine tr_val (ov_pick (vb := undef) rfl rfl rfl rfl) rfl rfl rfl ?_
                      refine tr_val (ov_assign rfl rfl) rfl rfl rfl ?_
                      refine tr_nil (hK24 _ _ (TrC.keep [6, 69, 66, 52, 8, 36, 25, 0, 1, 2] ?_))
                      show TrC _ _ _ _ [(6, _), (69, _), (66, _), (52, _), (8, _), (36, _), (25, _), (0, _), (1, _), (2, _)] _ _
                      refine tr_ret (post_ret1 (.inr rfl) rfl rfl ?_)
                      exact ⟨rfl, H⟩
                    · skip
                      refine tr_val (ov_move rfl rfl) rfl rfl rfl ?_
                      refine tr_val (ov_move rfl rfl) rfl rfl rfl ?_
                      refine tr_val (ov_move rfl rfl) rfl rfl rfl ?_
                      refine tr_val (ov_add rfl rfl rfl (w64 (by omega))) rfl rfl rfl ?_
                      refine tr_call (Within_c A c L _ (H.rd0 hR) hL (x) (x + 1)) rfl rfl rfl Try.call39 rfl rfl rfl ?_
                      rintro _ w25 ⟨rfl, HC⟩
                      have H := H.call0n HC
                      refine tr_val (ov_move rfl rfl) rfl rfl rfl ?_
                      refine tr_val (ov_eql rfl rfl rfl) rfl rfl rfl ?_
                      refine tr_val (ov_pick_f (va := undef) rfl rfl rfl rfl) rfl rfl rfl ?_
                      refine tr_val (ov_move rfl rfl) rfl rfl rfl ?_
                      first | refine tr_split (t := 81) rfl (fun s81 => ?_) (fun s81 => ?_) | refine tr_splitb (t := 81) rfl (fun s81 => ?_) (fun s81 => ?_)
                      · skip
                        refine tr_call (lives07_c _) rfl rfl rfl Try.call34 rfl rfl rfl ?_
                        rintro _ w26 ⟨rfl, HC⟩
                        have H := H.call0n HC
                        refine tr_val (ov_pick (vb := undef) rfl rfl rfl rfl) rfl rfl rfl ?_
                        refine tr_val (ov_assign rfl rfl) rfl rfl rfl ?_
                        refine tr_nil (hK24 _ _ (TrC.keep [6, 69, 66, 52, 8, 36, 25, 0, 1, 2] ?_))
                        show TrC _ _ _ _ [(6, _), (69, _), (66, _), (52, _), (8, _), (36, _), (25, _), (0, _), (1, _), (2, _)] _ _
                        refine tr_ret (post_ret1 (.inr rfl) rfl rfl ?_)
                        exact ⟨rfl, H⟩
                      · exfalso; have h1 := within_one (x := x) hrow; rw [c69] at h1; exact s81 h1
            · skip
              refine tr_pass rfl rfl rfl ?_
              refine tr_pass rfl rfl rfl ?_
              refine tr_pass rfl rfl rfl ?_
              refine tr_pass rfl rfl rfl ?_
              refine tr_val (ov_pick_f (va := undef) rfl rfl rfl rfl) rfl rfl rfl ?_
              refine tr_val (ov_neqb rfl Try.underlying4 rfl rfl) rfl rfl rfl ?_
              refine tr_nil (hK12 _ _ (TrC.keep [52, 8, 7, 36, 25, 6, 0, 1, 2] ?_))
              show TrC _ _ _ _ [(52, _), (8, _), (7, _), (36, _), (25, _), (6, _), (0, _), (1, _), (2, _)] _ _
              first | refine tr_cond rfl (fun c52 => ?_) (fun c52 => ?_) | refine tr_condb rfl (fun c52 => ?_) (fun c52 => ?_)
              · exfalso; rw [nth_some hrow] at c52; simp at c52; omega
              · skip
                refine tr_skip (hK11 _ _ (TrC.keep [52, 8, 7, 36, 25, 6, 0, 1, 2] ?_))
                show TrC _ _ _ _ [(52, _), (8, _), (7, _), (36, _), (25, _), (6, _), (0, _), (1, _), (2, _)] _ _
                refine tr_seq (fun K25 hK25 => ?_)
                refine tr_seq (fun K26 hK26 => ?_)
                -- region 8: law.go:65
                refine tr_region ?_
                refine tr_val (ov_move rfl rfl) rfl rfl rfl ?_
                refine tr_val (ov_move rfl rfl) rfl rfl rfl ?_
                first | refine tr_split (t := 54) rfl (fun s54 => ?_) (fun s54 => ?_) | refine tr_splitb (t := 54) rfl (fun s54 => ?_) (fun s54 => ?_)
                · obtain ⟨y, hy⟩ := Option.isSome_iff_exists.mp s54
                  have hnth := nth_has hrow hy
                  have hh : hasV L ((nthV L n).getD 0) = true := by rw [hy]; exact hnth.1
                  have hw : withinV L 0 ((nthV L n).getD 0) = n := by rw [hy]; exact hnth.2
                  refine tr_val (ov_move rfl rfl) rfl rfl rfl ?_
                  refine tr_val (ov_move rfl rfl) rfl rfl rfl ?_
                  refine tr_call (Has_c A c L _ (H.rd0 hR) hL _) rfl rfl rfl Try.call37 rfl rfl rfl ?_
                  rintro _ w27 ⟨rfl, HC⟩
                  have H := H.call0n HC
                  first | refine tr_val (ov_not rfl rfl) rfl rfl rfl ?_ | refine tr_val (ov_notb rfl rfl) rfl rfl rfl ?_
                  refine tr_val (ov_move rfl rfl) rfl rfl rfl ?_
                  first | refine tr_split (t := 59) rfl (fun s59 => ?_) (fun s59 => ?_) | refine tr_splitb (t := 59) rfl (fun s59 => ?_) (fun s59 => ?_)
                  · rw [hh] at s59; cases s59
                  · skip
                    refine tr_val (ov_move rfl rfl) rfl rfl rfl ?_
                    refine tr_val (ov_move rfl rfl) rfl rfl rfl ?_
                    refine tr_call (Within_c A c L _ (H.rd0 hR) hL (0) (_)) rfl rfl rfl Try.call39 rfl rfl rfl ?_
                    rintro _ w28 ⟨rfl, HC⟩
                    have H := H.call0n HC
                    refine tr_val (ov_move rfl rfl) rfl rfl rfl ?_
                    refine tr_val (ov_neq rfl rfl rfl) rfl rfl rfl ?_
                    refine tr_val (ov_pick_f (va := undef) rfl rfl rfl rfl) rfl rfl rfl ?_
                    refine tr_val (ov_pick (vb := undef) rfl rfl rfl rfl) rfl rfl rfl ?_
                    refine tr_nil (hK26 _ _ (TrC.keep [66, 52, 8, 36, 25, 6, 0, 1, 2] ?_))
                    show TrC _ _ _ _ [(66, _), (52, _), (8, _), (36, _), (25, _), (6, _), (0, _), (1, _), (2, _)] _ _
                    first | refine tr_cond rfl (fun c66 => ?_) (fun c66 => ?_) | refine tr_condb rfl (fun c66 => ?_) (fun c66 => ?_)
                    · exact absurd hw c66
                    · skip
                      refine tr_skip (hK25 _ _ (TrC.keep [66, 52, 8, 36, 25, 6, 0, 1, 2] ?_))
                      show TrC _ _ _ _ [(66, _), (52, _), (8, _), (36, _), (25, _), (6, _), (0, _), (1, _), (2, _)] _ _
                      refine tr_seq (fun K27 hK27 => ?_)
                      -- region 10: law.go:68
                      refine tr_region ?_
                      refine tr_val (ov_assign rfl rfl) rfl rfl rfl ?_
                      refine tr_nil (hK27 _ _ (TrC.keep [9, 66, 52, 8, 36, 25, 6, 0, 1, 2] ?_))
                      show TrC _ _ _ _ [(9, _), (66, _), (52, _), (8, _), (36, _), (25, _), (6, _), (0, _), (1, _), (2, _)] _ _
                      refine tr_seq (fun K28 hK28 => ?_)
                      refine tr_seq (fun K29 hK29 => ?_)
                      -- region 11: law.go:69
                      refine tr_region ?_
                      refine tr_val (ov_move rfl rfl) rfl rfl rfl ?_
                      refine tr_val (ov_move rfl rfl) rfl rfl rfl ?_
                      refine tr_call (Has_c A c L _ (H.rd0 hR) hL x) rfl rfl rfl Try.call37 rfl rfl rfl ?_
                      rintro _ w29 ⟨rfl, HC⟩
                      have H := H.call0n HC
                      refine tr_nil (hK29 _ _ (TrC.keep [69, 9, 66, 52, 8, 36, 25, 6, 0, 1, 2] ?_))
                      show TrC _ _ _ _ [(69, _), (9, _), (66, _), (52, _), (8, _), (36, _), (25, _), (6, _), (0, _), (1, _), (2, _)] _ _
                      first | refine tr_cond rfl (fun c69 => ?_) (fun c69 => ?_) | refine tr_condb rfl (fun c69 => ?_) (fun c69 => ?_)
                      · skip
                        -- region 12: law.go:70
                        refine tr_region ?_
                        refine tr_val (ov_assign rfl rfl) rfl rfl rfl ?_
                        refine tr_nil (hK28 _ _ (TrC.keep [9, 69, 66, 52, 8, 36, 25, 6, 0, 1, 2] ?_))
                        show TrC _ _ _ _ [(9, _), (69, _), (66, _), (52, _), (8, _), (36, _), (25, _), (6, _), (0, _), (1, _), (2, _)] _ _
                        refine tr_seq (fun K30 hK30 => ?_)
                        -- region 13: law.go:72
                        refine tr_region ?_
                        refine tr_val (ov_move rfl rfl) rfl rfl rfl ?_
                        refine tr_val (ov_eql rfl rfl rfl) rfl rfl rfl ?_
                        refine tr_val (ov_move rfl rfl) rfl rfl rfl ?_
                        first | refine tr_split (t := 72) rfl (fun s72 => ?_) (fun s72 => ?_) | refine tr_splitb (t := 72) rfl (fun s72 => ?_) (fun s72 => ?_)
                        · skip
                          refine tr_pass rfl rfl rfl ?_
                          refine tr_pass rfl rfl rfl ?_
                          refine tr_pass rfl rfl rfl ?_
                          refine tr_pass rfl rfl rfl ?_
                          refine tr_pass rfl rfl rfl ?_
                          refine tr_pass rfl rfl rfl ?_
                          refine tr_pass rfl rfl rfl ?_
                          refine tr_val (ov_pick (vb := undef) rfl rfl rfl rfl) rfl rfl rfl ?_
                          refine tr_val (ov_move rfl rfl) rfl rfl rfl ?_
                          refine tr_call (lives07_c _) rfl rfl rfl Try.call34 rfl rfl rfl ?_
                          rintro _ w30 ⟨rfl, HC⟩
                          have H := H.call0n HC
                          refine tr_val (ov_pick (vb := undef) rfl rfl rfl rfl) rfl rfl rfl ?_
                          refine tr_val (ov_assign rfl rfl) rfl rfl rfl ?_
                          refine tr_nil (hK30 _ _ (TrC.keep [6, 69, 66, 52, 8, 36, 25, 0, 1, 2] ?_))
                          show TrC _ _ _ _ [(6, _), (69, _), (66, _), (52, _), (8, _), (36, _), (25, _), (0, _), (1, _), (2, _)] _ _
                          refine tr_ret (post_ret1 (.inr rfl) rfl rfl ?_)
                          exact ⟨rfl, H⟩
                        · skip
                          refine tr_val (ov_move rfl rfl) rfl rfl rfl ?_
                          refine tr_val (ov_move rfl rfl) rfl rfl rfl ?_
                          refine tr_val (ov_move rfl rfl) rfl rfl rfl ?_
                          refine tr_val (ov_add rfl rfl rfl (w64 (by omega))) rfl rfl rfl ?_
                          refine tr_call (Within_c A c L _ (H.rd0 hR) hL (x) (x + 1)) rfl rfl rfl Try.call39 rfl rfl rfl ?_
                          rintro _ w31 ⟨rfl, HC⟩
                          have H := H.call0n HC
                          refine tr_val (ov_move rfl rfl) rfl rfl rfl ?_
                          refine tr_val (ov_eql rfl rfl rfl) rfl rfl rfl ?_
                          refine tr_val (ov_pick_f (va := undef) rfl rfl rfl rfl) rfl rfl rfl ?_
                          refine tr_val (ov_move rfl rfl) rfl rfl rfl ?_
                          first | refine tr_split (t := 81) rfl (fun s81 => ?_) (fun s81 => ?_) | refine tr_splitb (t := 81) rfl (fun s81 => ?_) (fun s81 => ?_)
                          · skip
                            refine tr_call (lives07_c _) rfl rfl rfl Try.call34 rfl rfl rfl ?_
                            rintro _ w32 ⟨rfl, HC⟩
                            have H := H.call0n HC
                            refine tr_val (ov_pick (vb := undef) rfl rfl rfl rfl) rfl rfl rfl ?_
                            refine tr_val (ov_assign rfl rfl) rfl rfl rfl ?_
                            refine tr_nil (hK30 _ _ (TrC.keep [6, 69, 66, 52, 8, 36, 25, 0, 1, 2] ?_))
                            show TrC _ _ _ _ [(6, _), (69, _), (66, _), (52, _), (8, _), (36, _), (25, _), (0, _), (1, _), (2, _)] _ _
                            refine tr_ret (post_ret1 (.inr rfl) rfl rfl ?_)
                            exact ⟨rfl, H⟩
                          · exfalso; have h1 := within_one (x := x) hrow; rw [c69] at h1; exact s81 h1
                      · skip
                        refine tr_skip (hK28 _ _ (TrC.keep [69, 9, 66, 52, 8, 36, 25, 6, 0, 1, 2] ?_))
                        show TrC _ _ _ _ [(69, _), (9, _), (66, _), (52, _), (8, _), (36, _), (25, _), (6, _), (0, _), (1, _), (2, _)] _ _
                        refine tr_seq (fun K31 hK31 => ?_)
                        -- region 13: law.go:72
                        refine tr_region ?_
                        refine tr_val (ov_move rfl rfl) rfl rfl rfl ?_
                        refine tr_val (ov_eql rfl rfl rfl) rfl rfl rfl ?_
                        refine tr_val (ov_move rfl rfl) rfl rfl rfl ?_
                        first | refine tr_split (t := 72) rfl (fun s72 => ?_) (fun s72 => ?_) | refine tr_splitb (t := 72) rfl (fun s72 => ?_) (fun s72 => ?_)
                        · skip
                          refine tr_pass rfl rfl rfl ?_
                          refine tr_pass rfl rfl rfl ?_
                          refine tr_pass rfl rfl rfl ?_
                          refine tr_pass rfl rfl rfl ?_
                          refine tr_pass rfl rfl rfl ?_
                          refine tr_pass rfl rfl rfl ?_
                          refine tr_pass rfl rfl rfl ?_
                          refine tr_val (ov_pick (vb := undef) rfl rfl rfl rfl) rfl rfl rfl ?_
                          refine tr_val (ov_move rfl rfl) rfl rfl rfl ?_
                          refine tr_call (lives07_c _) rfl rfl rfl Try.call34 rfl rfl rfl ?_
                          rintro _ w33 ⟨rfl, HC⟩
                          have H := H.call0n HC
                          refine tr_val (ov_pick (vb := undef) rfl rfl rfl rfl) rfl rfl rfl ?_
                          refine tr_val (ov_assign rfl rfl) rfl rfl rfl ?_
                          refine tr_nil (hK31 _ _ (TrC.keep [6, 69, 66, 52, 8, 36, 25, 0, 1, 2] ?_))
                          show TrC _ _ _ _ [(6, _), (69, _), (66, _), (52, _), (8, _), (36, _), (25, _), (0, _), (1, _), (2, _)] _ _
                          refine tr_ret (post_ret1 (.inr rfl) rfl rfl ?_)
                          exact ⟨rfl, H⟩
                        · skip
                          refine tr_val (ov_move rfl rfl) rfl rfl rfl ?_
                          refine tr_val (ov_move rfl rfl) rfl rfl rfl ?_
                          refine tr_val (ov_move rfl rfl) rfl rfl rfl ?_
                          refine tr_val (ov_add rfl rfl rfl (w64 (by omega))) rfl rfl rfl ?_
                          refine tr_call (Within_c A c L _ (H.rd0 hR) hL (x) (x + 1)) rfl rfl rfl Try.call39 rfl rfl rfl ?_
                          rintro _ w34 ⟨rfl, HC⟩
                          have H := H.call0n HC
                          refine tr_val (ov_move rfl rfl) rfl rfl rfl ?_
                          refine tr_val (ov_eql rfl rfl rfl) rfl rfl rfl ?_
                          refine tr_val (ov_pick_f (va := undef) rfl rfl rfl rfl) rfl rfl rfl ?_
                          refine tr_val (ov_move rfl rfl) rfl rfl rfl ?_
                          first | refine tr_split (t := 81) rfl (fun s81 => ?_) (fun s81 => ?_) | refine tr_splitb (t := 81) rfl (fun s81 => ?_) (fun s81 => ?_)
                          · skip
                            refine tr_call (lives07_c _) rfl rfl rfl Try.call34 rfl rfl rfl ?_
                            rintro _ w35 ⟨rfl, HC⟩
                            have H := H.call0n HC
                            refine tr_val (ov_pick (vb := undef) rfl rfl rfl rfl) rfl rfl rfl ?_
                            refine tr_val (ov_assign rfl rfl) rfl rfl rfl ?_
                            refine tr_nil (hK31 _ _ (TrC.keep [6, 69, 66, 52, 8, 36, 25, 0, 1, 2] ?_))
                            show TrC _ _ _ _ [(6, _), (69, _), (66, _), (52, _), (8, _), (36, _), (25, _), (0, _), (1, _), (2, _)] _ _
                            refine tr_ret (post_ret1 (.inr rfl) rfl rfl ?_)
                            exact ⟨rfl, H⟩
                          · exfalso; have h1 := within_one (x := x) hrow; rw [c69] at h1; exact s81 h1
                · skip
                  refine tr_pass rfl rfl rfl ?_
                  refine tr_pass rfl rfl rfl ?_
                  refine tr_pass rfl rfl rfl ?_
                  refine tr_pass rfl rfl rfl ?_
                  refine tr_pass rfl rfl rfl ?_
                  refine tr_pass rfl rfl rfl ?_
                  refine tr_pass rfl rfl rfl ?_
                  refine tr_pass rfl rfl rfl ?_
                  refine tr_pass rfl rfl rfl ?_
                  refine tr_pass rfl rfl rfl ?_
                  refine tr_pass rfl rfl rfl ?_
                  refine tr_val (ov_pick_f (va := undef) rfl rfl rfl rfl) rfl rfl rfl ?_
                  refine tr_nil (hK26 _ _ (TrC.keep [66, 52, 8, 36, 25, 6, 0, 1, 2] ?_))
                  show TrC _ _ _ _ [(66, _), (52, _), (8, _), (36, _), (25, _), (6, _), (0, _), (1, _), (2, _)] _ _
                  refine tr_cond_f rfl rfl ?_
                  refine tr_skip (hK25 _ _ (TrC.keep [66, 52, 8, 36, 25, 6, 0, 1, 2] ?_))
                  show TrC _ _ _ _ [(66, _), (52, _), (8, _), (36, _), (25, _), (6, _), (0, _), (1, _), (2, _)] _ _
                  refine tr_seq (fun K32 hK32 => ?_)
                  -- region 10: law.go:68
                  refine tr_region ?_
                  refine tr_val (ov_assign rfl rfl) rfl rfl rfl ?_
                  refine tr_nil (hK32 _ _ (TrC.keep [9, 66, 52, 8, 36, 25, 6, 0, 1, 2] ?_))
                  show TrC _ _ _ _ [(9, _), (66, _), (52, _), (8, _), (36, _), (25, _), (6, _), (0, _), (1, _), (2, _)] _ _
                  refine tr_seq (fun K33 hK33 => ?_)
                  refine tr_seq (fun K34 hK34 => ?_)
                  -- region 11: law.go:69
                  refine tr_region ?_
                  refine tr_val (ov_move rfl rfl) rfl rfl rfl ?_
                  refine tr_val (ov_move rfl rfl) rfl rfl rfl ?_
                  refine tr_call (Has_c A c L _ (H.rd0 hR) hL x) rfl rfl rfl Try.call37 rfl rfl rfl ?_
                  rintro _ w36 ⟨rfl, HC⟩
                  have H := H.call0n HC
                  refine tr_nil (hK34 _ _ (TrC.keep [69, 9, 66, 52, 8, 36, 25, 6, 0, 1, 2] ?_))
                  show TrC _ _ _ _ [(69, _), (9, _), (66, _), (52, _), (8, _), (36, _), (25, _), (6, _), (0, _), (1, _), (2, _)] _ _
                  first | refine tr_cond rfl (fun c69 => ?_) (fun c69 => ?_) | refine tr_condb rfl (fun c69 => ?_) (fun c69 => ?_)
                  · skip
                    -- region 12: law.go:70
                    refine tr_region ?_
                    refine tr_val (ov_assign rfl rfl) rfl rfl rfl ?_
                    refine tr_nil (hK33 _ _ (TrC.keep [9, 69, 66, 52, 8, 36, 25, 6, 0, 1, 2] ?_))
                    show TrC _ _ _ _ [(9, _), (69, _), (66, _), (52, _), (8, _), (36, _), (25, _), (6, _), (0, _), (1, _), (2, _)] _ _
                    refine tr_seq (fun K35 hK35 => ?_)
                    -- region 13: law.go:72
                    refine tr_region ?_
                    refine tr_val (ov_move rfl rfl) rfl rfl rfl ?_
                    refine tr_val (ov_eql rfl rfl rfl) rfl rfl rfl ?_
                    refine tr_val (ov_move rfl rfl) rfl rfl rfl ?_
                    first | refine tr_split (t := 72) rfl (fun s72 => ?_) (fun s72 => ?_) | refine tr_splitb (t := 72) rfl (fun s72 => ?_) (fun s72 => ?_)
                    · skip
                      refine tr_pass rfl rfl rfl ?_
                      refine tr_pass rfl rfl rfl ?_
                      refine tr_pass rfl rfl rfl ?_
                      refine tr_pass rfl rfl rfl ?_
                      refine tr_pass rfl rfl rfl ?_
                      refine tr_pass rfl rfl rfl ?_
                      refine tr_pass rfl rfl rfl ?_
                      refine tr_val (ov_pick (vb := undef) rfl rfl rfl rfl) rfl rfl rfl ?_
                      refine tr_val (ov_move rfl rfl) rfl rfl rfl ?_
                      refine tr_call (lives07_c _) rfl rfl rfl Try.call34 rfl rfl rfl ?_
                      rintro _ w37 ⟨rfl, HC⟩
                      have H := H.call0n HC
                      refine tr_val (ov_pick (vb := undef) rfl rfl rfl rfl) rfl rfl rfl ?_
                      refine tr_val (ov_assign rfl rfl) rfl rfl rfl ?_
                      refine tr_nil (hK35 _ _ (TrC.keep [6, 69, 66, 52, 8, 36, 25, 0, 1, 2] ?_))
                      show TrC _ _ _ _ [(6, _), (69, _), (66, _), (52, _), (8, _), (36, _), (25, _), (0, _), (1, _), (2, _)] _ _
                      refine tr_ret (post_ret1 (.inr rfl) rfl rfl ?_)
                      exact ⟨rfl, H⟩
                    · skip
                      refine tr_val (ov_move rfl rfl) rfl rfl rfl ?_
                      refine tr_val (ov_move rfl rfl) rfl rfl rfl ?_
                      refine tr_val (ov_move rfl rfl) rfl rfl rfl ?_
                      refine tr_val (ov_add rfl rfl rfl (w64 (by omega))) rfl rfl rfl ?_
                      refine tr_call (Within_c A c L _ (H.rd0 hR) hL (x) (x + 1)) rfl rfl rfl Try.call39 rfl rfl rfl ?_
                      rintro _ w38 ⟨rfl, HC⟩
                      have H := H.call0n HC
                      refine tr_val (ov_move rfl rfl) rfl rfl rfl ?_
                      refine tr_val (ov_eql rfl rfl rfl) rfl rfl rfl ?_
                      refine tr_val (ov_pick_f (va := undef) rfl rfl rfl rfl) rfl rfl rfl ?_
                      refine tr_val (ov_move rfl rfl) rfl rfl rfl ?_
                      first | refine tr_split (t := 81) rfl (fun s81 => ?_) (fun s81 => ?_) | refine tr_splitb (t := 81) rfl (fun s81 => ?_) (fun s81 => ?_)
                      · skip
                        refine tr_call (lives07_c _) rfl rfl rfl Try.call34 rfl rfl rfl ?_
                        rintro _ w39 ⟨rfl, HC⟩
                        have H := H.call0n HC
                        refine tr_val (ov_pick (vb := undef) rfl rfl rfl rfl) rfl rfl rfl ?_
                        refine tr_val (ov_assign rfl rfl) rfl rfl rfl ?_
                        refine tr_nil (hK35 _ _ (TrC.keep [6, 69, 66, 52, 8, 36, 25, 0, 1, 2] ?_))
                        show TrC _ _ _ _ [(6, _), (69, _), (66, _), (52, _), (8, _), (36, _), (25, _), (0, _), (1, _), (2, _)] _ _
                        refine tr_ret (post_ret1 (.inr rfl) rfl rfl ?_)
                        exact ⟨rfl, H⟩
                      · exfalso; have h1 := within_one (x := x) hrow; rw [c69] at h1; exact s81 h1
                  · skip
                    refine tr_skip (hK33 _ _ (TrC.keep [69, 9, 66, 52, 8, 36, 25, 6, 0, 1, 2] ?_))
                    show TrC _ _ _ _ [(69, _), (9, _), (66, _), (52, _), (8, _), (36, _), (25, _), (6, _), (0, _), (1, _), (2, _)] _ _
                    refine tr_seq (fun K36 hK36 => ?_)
                    -- region 13: law.go:72
                    refine tr_region ?_
                    refine tr_val (ov_move rfl rfl) rfl rfl rfl ?_
                    refine tr_val (ov_eql rfl rfl rfl) rfl rfl rfl ?_
                    refine tr_val (ov_move rfl rfl) rfl rfl rfl ?_
                    first | refine tr_split (t := 72) rfl (fun s72 => ?_) (fun s72 => ?_) | refine tr_splitb (t := 72) rfl (fun s72 => ?_) (fun s72 => ?_)
                    · skip
                      refine tr_pass rfl rfl rfl ?_
                      refine tr_pass rfl rfl rfl ?_
                      refine tr_pass rfl rfl rfl ?_
                      refine tr_pass rfl rfl rfl ?_
                      refine tr_pass rfl rfl rfl ?_
                      refine tr_pass rfl rfl rfl ?_
                      refine tr_pass rfl rfl rfl ?_
                      refine tr_val (ov_pick (vb := undef) rfl rfl rfl rfl) rfl rfl rfl ?_
                      refine tr_val (ov_move rfl rfl) rfl rfl rfl ?_
                      refine tr_call (lives07_c _) rfl rfl rfl Try.call34 rfl rfl rfl ?_
                      rintro _ w40 ⟨rfl, HC⟩
                      have H := H.call0n HC
                      refine tr_val (ov_pick (vb := undef) rfl rfl rfl rfl) rfl rfl rfl ?_
                      refine tr_val (ov_assign rfl rfl) rfl rfl rfl ?_
                      refine tr_nil (hK36 _ _ (TrC.keep [6, 69, 66, 52, 8, 36, 25, 0, 1, 2] ?_))
                      show TrC _ _ _ _ [(6, _), (69, _), (66, _), (52, _), (8, _), (36, _), (25, _), (0, _), (1, _), (2, _)] _ _
                      refine tr_ret (post_ret1 (.inr rfl) rfl rfl ?_)
                      exact ⟨rfl, H⟩
                    · skip
                      refine tr_val (ov_move rfl rfl) rfl rfl rfl ?_
                      refine tr_val (ov_move rfl rfl) rfl rfl rfl ?_
                      refine tr_val (ov_move rfl rfl) rfl rfl rfl ?_
                      refine tr_val (ov_add rfl rfl rfl (w64 (by omega))) rfl rfl rfl ?_
                      refine tr_call (Within_c A c L _ (H.rd0 hR) hL (x) (x + 1)) rfl rfl rfl Try.call39 rfl rfl rfl ?_
                      rintro _ w41 ⟨rfl, HC⟩
                      have H := H.call0n HC
                      refine tr_val (ov_move rfl rfl) rfl rfl rfl ?_
                      refine tr_val (ov_eql rfl rfl rfl) rfl rfl rfl ?_
                      refine tr_val (ov_pick_f (va := undef) rfl rfl rfl rfl) rfl rfl rfl ?_
                      refine tr_val (ov_move rfl rfl) rfl rfl rfl ?_
                      first | refine tr_split (t := 81) rfl (fun s81 => ?_) (fun s81 => ?_) | refine tr_splitb (t := 81) rfl (fun s81 => ?_) (fun s81 => ?_)
                      · skip
                        refine tr_call (lives07_c _) rfl rfl rfl Try.call34 rfl rfl rfl ?_
                        rintro _ w42 ⟨rfl, HC⟩
                        have H := H.call0n HC
                        refine tr_val (ov_pick (vb := undef) rfl rfl rfl rfl) rfl rfl rfl ?_
                        refine tr_val (ov_assign rfl rfl) rfl rfl rfl ?_
                        refine tr_nil (hK36 _ _ (TrC.keep [6, 69, 66, 52, 8, 36, 25, 0, 1, 2] ?_))
                        show TrC _ _ _ _ [(6, _), (69, _), (66, _), (52, _), (8, _), (36, _), (25, _), (0, _), (1, _), (2, _)] _ _
                        refine tr_ret (post_ret1 (.inr rfl) rfl rfl ?_)
                        exact ⟨rfl, H⟩
                      · exfalso; have h1 := within_one (x := x) hrow; rw [c69] at h1; exact s81 h1

/-! curfew/curfewlaw07.SpanJoins -/
set_option maxRecDepth 20000 in
theorem SpanJoins_c (A : Option Addr) (c : Nat) (L : List Sp) (w : World) (hR : Rd w A 2 (L.map encSpan)) (x : Int) : Does Try.prog 8 #[.slice A L.length c, .int .i64 x] w (fun v w' => v = .bool true ∧ SH w noBlocks [] w') := by
  refine does_enter2 Try.func8 rfl Try.ntmps8 rfl ?_
  have H := SH.start w noBlocks
  refine tr_seq (fun K1 hK1 => ?_)
  -- region 0: law.go:76
  refine tr_region ?_
  refine tr_val (ov_assign rfl rfl) rfl rfl rfl ?_
  refine tr_nil (hK1 _ _ (TrC.keep [4, 0, 1] ?_))
  show TrC _ _ _ _ [(4, _), (0, _), (1, _)] _ _
  refine tr_seq (fun K2 hK2 => ?_)
  refine tr_seq (fun K3 hK3 => ?_)
  -- region 1: law.go:77
  refine tr_region ?_
  refine tr_val (ov_move rfl rfl) rfl rfl rfl ?_
  refine tr_val (ov_len rfl rfl Try.underlying33 rfl) rfl rfl rfl ?_
  refine tr_val (ov_gtr rfl rfl rfl) rfl rfl rfl ?_
  refine tr_nil (hK3 _ _ (TrC.keep [12, 4, 0, 1] ?_))
  show TrC _ _ _ _ [(12, _), (4, _), (0, _), (1, _)] _ _
  first | refine tr_cond rfl (fun c12 => ?_) (fun c12 => ?_) | refine tr_condb rfl (fun c12 => ?_) (fun c12 => ?_)
  · skip
    refine tr_seq (fun K4 hK4 => ?_)
    -- region 2: law.go:78
    refine tr_region ?_
    refine tr_call (lives07_c _) rfl rfl rfl Try.call34 rfl rfl rfl ?_
    rintro _ w1 ⟨rfl, HC⟩
    have H := H.call0n HC
    refine tr_val (ov_assign rfl rfl) rfl rfl rfl ?_
    refine tr_nil (hK4 _ _ (TrC.keep [4, 12, 0, 1] ?_))
    show TrC _ _ _ _ [(4, _), (12, _), (0, _), (1, _)] _ _
    refine tr_ret (post_ret1 (.inr rfl) rfl rfl ?_)
    exact ⟨rfl, H⟩
  · skip
    refine tr_skip (hK2 _ _ (TrC.keep [12, 4, 0, 1] ?_))
    show TrC _ _ _ _ [(12, _), (4, _), (0, _), (1, _)] _ _
    refine tr_seq (fun K5 hK5 => ?_)
    -- region 3: law.go:80
    have hL : L.length ≤ 4294967296 := by omega
    refine tr_region ?_
    refine tr_val (ov_assign rfl rfl) rfl rfl rfl ?_
    refine tr_nil (hK5 _ _ (TrC.keep [5, 12, 4, 0, 1] ?_))
    show TrC _ _ _ _ [(5, _), (12, _), (4, _), (0, _), (1, _)] _ _
    refine tr_seq (fun K6 hK6 => ?_)
    refine tr_seq (fun K7 hK7 => ?_)
    -- region 4: law.go:81
    refine tr_region ?_
    refine tr_val (ov_move rfl rfl) rfl rfl rfl ?_
    refine tr_val (ov_len rfl rfl Try.underlying33 rfl) rfl rfl rfl ?_
    refine tr_val (ov_move rfl rfl) rfl rfl rfl ?_
    refine tr_nil (hK7 _ _ (TrC.keep [16, 15, 14, 5, 12, 4, 0, 1] ?_))
    show TrC _ _ _ _ [(16, _), (15, _), (14, _), (5, _), (12, _), (4, _), (0, _), (1, _)] _ _
    refine tr_block ?_
    refine tr_loop_ (X := Int) [15, 14, 12, 0, 1] (fun i => [(16, .int .i64 i), (5, .bool ((L.take i.toNat).any (hasIn x)))]) (fun i w' => 0 ≤ i ∧ i ≤ L.length ∧ (∀ s, s ∈ L.take i.toNat → RightP s) ∧ SH w noBlocks [] w') (fun i => (L.length - i).toNat) (0) (Sub.cons rfl (Sub.cons rfl (Sub.cons rfl (Sub.cons rfl (Sub.cons rfl (Sub.cons rfl (Sub.cons rfl Sub.nil))))))) (⟨by omega, by omega, by simp, H⟩) ?_
    rintro i w2 ⟨hi0, hi1, hr, H⟩ K8 hK8
    show TrC _ _ _ _ [(16, _), (5, _), (15, _), (14, _), (12, _), (0, _), (1, _)] _ _
    refine tr_seq (fun K9 hK9 => ?_)
    -- region 5: law.go:81
    refine tr_region ?_
    refine tr_val (ov_lss rfl rfl rfl) rfl rfl rfl ?_
    refine tr_nil (hK9 _ _ (TrC.keep [17, 16, 5, 15, 14, 12, 0, 1] ?_))
    show TrC _ _ _ _ [(17, _), (16, _), (5, _), (15, _), (14, _), (12, _), (0, _), (1, _)] _ _
    refine tr_seq (fun K10 hK10 => ?_)
    first | refine tr_cond rfl (fun c17 => ?_) (fun c17 => ?_) | refine tr_condb rfl (fun c17 => ?_) (fun c17 => ?_)
    · skip
      refine tr_skip (hK10 _ _ (TrC.keep [17, 16, 5, 15, 14, 12, 0, 1] ?_))
      show TrC _ _ _ _ [(17, _), (16, _), (5, _), (15, _), (14, _), (12, _), (0, _), (1, _)] _ _
      refine tr_seq (fun K11 hK11 => ?_)
      refine tr_block ?_
      refine tr_seq (fun K12 hK12 => ?_)
      -- region 6: law.go:81
      refine tr_region ?_
      refine tr_val (ov_indexAddrR (H.rd0 hR) rfl Try.underlying33 (Try.sizeOf40 _) rfl rfl (by omega) (by omega)) rfl rfl rfl ?_
      refine tr_val (ld_Span (H.rd0 hR) rfl (Try.isAgg40 _) (Try.sizeOf40 _) rfl (by omega) (by omega)) rfl rfl rfl ?_
      refine tr_alloc H rfl (Try.zeroValue40 _) rfl rfl rfl rfl ?_
      intro b1 w3 hb1 H
      first | (refine tr_storeW H.get0 rfl (Try.sizeOf40 _) rfl rfl rfl rfl rfl rfl rfl rfl ?_; intro w4 U; have H := H.upd0 U; clear U) | (refine tr_storeW H.get1 rfl (Try.sizeOf40 _) rfl rfl rfl rfl rfl rfl rfl rfl ?_; intro w4 U; have H := H.upd1 U; clear U) | (refine tr_storeW H.get2 rfl (Try.sizeOf40 _) rfl rfl rfl rfl rfl rfl rfl rfl ?_; intro w4 U; have H := H.upd2 U; clear U) | (refine tr_storeW H.get3 rfl (Try.sizeOf40 _) rfl rfl rfl rfl rfl rfl rfl rfl ?_; intro w4 U; have H := H.upd3 U; clear U) | (refine tr_storeW H.get4 rfl (Try.sizeOf40 _) rfl rfl rfl rfl rfl rfl rfl rfl ?_; intro w4 U; have H := H.upd4 U; clear U) | (refine tr_storeW H.get5 rfl (Try.sizeOf40 _) rfl rfl rfl rfl rfl rfl rfl rfl ?_; intro w4 U; have H := H.upd5 U; clear U)
      refine tr_nil (hK12 _ _ (TrC.keep [7, 17, 16, 5, 15, 14, 12, 0, 1] ?_))
      show TrC _ _ _ _ [(7, _), (17, _), (16, _), (5, _), (15, _), (14, _), (12, _), (0, _), (1, _)] _ _
      refine tr_seq (fun K13 hK13 => ?_)
      refine tr_seq (fun K14 hK14 => ?_)
      -- region 7: law.go:82
      refine tr_region ?_
      first | refine tr_val (ov_load_blkN H.get0 rfl (Try.isAgg40 _) (Try.sizeOf40 _) rfl rfl rfl) rfl rfl rfl ?_ | refine tr_val (ov_load_blkN H.get1 rfl (Try.isAgg40 _) (Try.sizeOf40 _) rfl rfl rfl) rfl rfl rfl ?_ | refine tr_val (ov_load_blkN H.get2 rfl (Try.isAgg40 _) (Try.sizeOf40 _) rfl rfl rfl) rfl rfl rfl ?_ | refine tr_val (ov_load_blkN H.get3 rfl (Try.isAgg40 _) (Try.sizeOf40 _) rfl rfl rfl) rfl rfl rfl ?_ | refine tr_val (ov_load_blkN H.get4 rfl (Try.isAgg40 _) (Try.sizeOf40 _) rfl rfl rfl) rfl rfl rfl ?_ | refine tr_val (ov_load_blkN H.get5 rfl (Try.isAgg40 _) (Try.sizeOf40 _) rfl rfl rfl) rfl rfl rfl ?_
      refine tr_call (Right_c (gt L i) _) rfl rfl rfl Try.call35 rfl rfl rfl ?_
      rintro _ w5 ⟨rfl, HC⟩
      have H := H.call0n HC
      first | refine tr_val (ov_not rfl rfl) rfl rfl rfl ?_ | refine tr_val (ov_notb rfl rfl) rfl rfl rfl ?_
      refine tr_nil (hK14 _ _ (TrC.keep [22, 7, 17, 16, 5, 15, 14, 12, 0, 1] ?_))
      show TrC _ _ _ _ [(22, _), (7, _), (17, _), (16, _), (5, _), (15, _), (14, _), (12, _), (0, _), (1, _)] _ _
      first | refine tr_cond rfl (fun c22 => ?_) (fun c22 => ?_) | refine tr_condb rfl (fun c22 => ?_) (fun c22 => ?_)
      · skip
        refine tr_seq (fun K15 hK15 => ?_)
        -- region 8: law.go:83
        refine tr_region ?_
        refine tr_val (ov_move rfl rfl) rfl rfl rfl ?_
        refine tr_call (Join_c A c L _ (H.rd0 hR) hL) rfl rfl rfl Try.call36 rfl rfl rfl ?_
        rintro _ w6 ⟨A5, c5, R, rfl, hJ, HC⟩
        have H := H.call0r HC
        have hR0 : (R.length : Int) = 0 := by rw [hJ.none_ (gt_mem hi0 (by omega)) c22]; rfl
        refine tr_val (ov_len rfl rfl Try.underlying33 rfl) rfl rfl rfl ?_
        refine tr_val (ov_eql rfl rfl rfl) rfl rfl rfl ?_
        refine tr_val (ov_move rfl rfl) rfl rfl rfl ?_
        first | refine tr_split (t := 27) rfl (fun s27 => ?_) (fun s27 => ?_) | refine tr_splitb (t := 27) rfl (fun s27 => ?_) (fun s27 => ?_)
        · skip
          refine tr_call (lives07_c _) rfl rfl rfl Try.call34 rfl rfl rfl ?_
          rintro _ w7 ⟨rfl, HC⟩
          have H := H.call0n HC
          refine tr_val (ov_pick (vb := undef) rfl rfl rfl rfl) rfl rfl rfl ?_
          refine tr_val (ov_assign rfl rfl) rfl rfl rfl ?_
          refine tr_nil (hK15 _ _ (TrC.keep [4, 22, 7, 17, 16, 5, 15, 14, 12, 0, 1] ?_))
          show TrC _ _ _ _ [(4, _), (22, _), (7, _), (17, _), (16, _), (5, _), (15, _), (14, _), (12, _), (0, _), (1, _)] _ _
          refine tr_ret (post_ret1 (.inr rfl) rfl rfl ?_)
          exact ⟨rfl, H.drop0.drop0⟩
        · exact absurd hR0 s27
      · skip
        refine tr_skip (hK13 _ _ (TrC.keep [22, 7, 17, 16, 5, 15, 14, 12, 0, 1] ?_))
        show TrC _ _ _ _ [(22, _), (7, _), (17, _), (16, _), (5, _), (15, _), (14, _), (12, _), (0, _), (1, _)] _ _
        -- region 9: law.go:85
        refine tr_cut [22, 7, 17, 16, 15, 14, 12, 0, 1] [(5, .bool ((L.take (i + 1).toNat).any (hasIn x)))] (fun w' => SH w noBlocks [] w') (fun K16 hK16 => ?_) (fun w8 H => ?_)
        · skip
          refine tr_val (ov_move rfl rfl) rfl rfl rfl ?_
          refine tr_val (ov_move rfl rfl) rfl rfl rfl ?_
          first | refine tr_split (t := 31) rfl (fun s31 => ?_) (fun s31 => ?_) | refine tr_splitb (t := 31) rfl (fun s31 => ?_) (fun s31 => ?_)
          · skip
            refine tr_pass rfl rfl rfl ?_
            refine tr_pass rfl rfl rfl ?_
            refine tr_pass rfl rfl rfl ?_
            refine tr_pass rfl rfl rfl ?_
            refine tr_pass rfl rfl rfl ?_
            refine tr_pass rfl rfl rfl ?_
            refine tr_pass rfl rfl rfl ?_
            refine tr_pass rfl rfl rfl ?_
            refine tr_pass rfl rfl rfl ?_
            refine tr_pass rfl rfl rfl ?_
            refine tr_val (ov_pick (vb := undef) rfl rfl rfl rfl) rfl rfl rfl ?_
            refine tr_val (ov_assign rfl rfl) rfl rfl rfl ?_
            exact tr_nil (hK16 _ _ (Sub.consE rfl (congrArg Value.bool (by rw [any_take hi0 (by omega), s31]; first | rfl | (show _ = decide ((gt L i).1 ≤ x ∧ x < (gt L i).2); first | exact eqT (by omega) | exact eqF (by omega) | exact eqI (by omega)))) (Sub.cons rfl (Sub.cons rfl (Sub.cons rfl (Sub.cons rfl (Sub.cons rfl (Sub.cons rfl (Sub.cons rfl (Sub.cons rfl (Sub.cons rfl Sub.nil)))))))))) (H.drop0))
          · skip
            refine tr_val (ov_move rfl rfl) rfl rfl rfl ?_
            refine tr_val (ov_fieldAddr rfl Try.underlying40 rfl (Try.sizeOf2 _) (by decide) rfl) rfl rfl rfl ?_
            first | refine tr_val (ov_load_blk H.get0 rfl (Try.isAgg2 _) rfl rfl rfl) rfl rfl rfl ?_ | refine tr_val (ov_load_blk H.get1 rfl (Try.isAgg2 _) rfl rfl rfl) rfl rfl rfl ?_ | refine tr_val (ov_load_blk H.get2 rfl (Try.isAgg2 _) rfl rfl rfl) rfl rfl rfl ?_ | refine tr_val (ov_load_blk H.get3 rfl (Try.isAgg2 _) rfl rfl rfl) rfl rfl rfl ?_ | refine tr_val (ov_load_blk H.get4 rfl (Try.isAgg2 _) rfl rfl rfl) rfl rfl rfl ?_ | refine tr_val (ov_load_blk H.get5 rfl (Try.isAgg2 _) rfl rfl rfl) rfl rfl rfl ?_
            refine tr_val (ov_geq rfl rfl rfl) rfl rfl rfl ?_
            refine tr_val (ov_move rfl rfl) rfl rfl rfl ?_
            first | refine tr_split (t := 36) rfl (fun s36 => ?_) (fun s36 => ?_) | refine tr_splitb (t := 36) rfl (fun s36 => ?_) (fun s36 => ?_)
            · skip
              refine tr_val (ov_move rfl rfl) rfl rfl rfl ?_
              refine tr_val (ov_fieldAddr rfl Try.underlying40 rfl (Try.sizeOf2 _) (by decide) rfl) rfl rfl rfl ?_
              first | refine tr_val (ov_load_blk H.get0 rfl (Try.isAgg2 _) rfl rfl rfl) rfl rfl rfl ?_ | refine tr_val (ov_load_blk H.get1 rfl (Try.isAgg2 _) rfl rfl rfl) rfl rfl rfl ?_ | refine tr_val (ov_load_blk H.get2 rfl (Try.isAgg2 _) rfl rfl rfl) rfl rfl rfl ?_ | refine tr_val (ov_load_blk H.get3 rfl (Try.isAgg2 _) rfl rfl rfl) rfl rfl rfl ?_ | refine tr_val (ov_load_blk H.get4 rfl (Try.isAgg2 _) rfl rfl rfl) rfl rfl rfl ?_ | refine tr_val (ov_load_blk H.get5 rfl (Try.isAgg2 _) rfl rfl rfl) rfl rfl rfl ?_
              refine tr_val (ov_lss rfl rfl rfl) rfl rfl rfl ?_
              refine tr_val (ov_pick (vb := undef) rfl rfl rfl rfl) rfl rfl rfl ?_
              refine tr_val (ov_pick_f (va := undef) rfl rfl rfl rfl) rfl rfl rfl ?_
              refine tr_val (ov_assign rfl rfl) rfl rfl rfl ?_
              exact tr_nil (hK16 _ _ (Sub.consE rfl (congrArg Value.bool (by rw [any_take hi0 (by omega), s31]; first | rfl | (show _ = decide ((gt L i).1 ≤ x ∧ x < (gt L i).2); first | exact eqT (by omega) | exact eqF (by omega) | exact eqI (by omega)))) (Sub.cons rfl (Sub.cons rfl (Sub.cons rfl (Sub.cons rfl (Sub.cons rfl (Sub.cons rfl (Sub.cons rfl (Sub.cons rfl (Sub.cons rfl Sub.nil)))))))))) (H.drop0))
            · skip
              refine tr_pass rfl rfl rfl ?_
              refine tr_pass rfl rfl rfl ?_
              refine tr_pass rfl rfl rfl ?_
              refine tr_pass rfl rfl rfl ?_
              refine tr_val (ov_pick_f (va := undef) rfl rfl rfl rfl) rfl rfl rfl ?_
              refine tr_val (ov_pick_f (va := undef) rfl rfl rfl rfl) rfl rfl rfl ?_
              refine tr_val (ov_assign rfl rfl) rfl rfl rfl ?_
              exact tr_nil (hK16 _ _ (Sub.consE rfl (congrArg Value.bool (by rw [any_take hi0 (by omega), s31]; first | rfl | (show _ = decide ((gt L i).1 ≤ x ∧ x < (gt L i).2); first | exact eqT (by omega) | exact eqF (by omega) | exact eqI (by omega)))) (Sub.cons rfl (Sub.cons rfl (Sub.cons rfl (Sub.cons rfl (Sub.cons rfl (Sub.cons rfl (Sub.cons rfl (Sub.cons rfl (Sub.cons rfl Sub.nil)))))))))) (H.drop0))
        · skip
          refine hK11 _ _ (TrC.keep [5, 22, 7, 17, 16, 15, 14, 12, 0, 1] ?_)
          show TrC _ _ _ _ [(5, _), (22, _), (7, _), (17, _), (16, _), (15, _), (14, _), (12, _), (0, _), (1, _)] _ _
          -- region 10: law.go:81
          refine tr_region ?_
          refine tr_val (ov_add rfl rfl rfl (w64 (by omega))) rfl rfl rfl ?_
          refine tr_val (ov_move rfl rfl) rfl rfl rfl ?_
          skip
          exact tr_nil (hK8 (i + 1) _ _ (⟨by omega, by omega, right_step hr hi0 (by omega) (by simpa using c22), H⟩) (by first | omega | (dsimp only; omega)) (Sub.cons rfl (Sub.cons rfl (Sub.cons rfl (Sub.cons rfl (Sub.cons rfl (Sub.cons rfl (Sub.cons rfl Sub.nil))))))))
    · skip
      refine tr_exit (hK6 _ _ (TrC.keep [17, 16, 5, 15, 14, 12, 0, 1] ?_))
      show TrC _ _ _ _ [(17, _), (16, _), (5, _), (15, _), (14, _), (12, _), (0, _), (1, _)] _ _
      refine tr_seq (fun K17 hK17 => ?_)
      -- region 11: law.go:87
      refine tr_region ?_
      refine tr_val (ov_move rfl rfl) rfl rfl rfl ?_
      refine tr_call (Join_c A c L _ (H.rd0 hR) hL) rfl rfl rfl Try.call36 rfl rfl rfl ?_
      rintro _ w9 ⟨A5, c5, R, rfl, hJ, HC⟩
      have H := H.call0r HC
      have hl1 := hJ.len
      have hall : ∀ s, s ∈ L → RightP s := by rw [List.take_of_length_le (by omega)] at hr; exact hr
      have hhas := hJ.has (x := x) hall (by omega)
      refine tr_val (ov_assign rfl rfl) rfl rfl rfl ?_
      refine tr_nil (hK17 _ _ (TrC.keep [8, 17, 16, 5, 15, 14, 12, 0, 1] ?_))
      show TrC _ _ _ _ [(8, _), (17, _), (16, _), (5, _), (15, _), (14, _), (12, _), (0, _), (1, _)] _ _
      refine tr_seq (fun K18 hK18 => ?_)
      refine tr_seq (fun K19 hK19 => ?_)
      -- region 12: law.go:88
      refine tr_region ?_
      refine tr_val (ov_move rfl rfl) rfl rfl rfl ?_
      refine tr_val (ov_len rfl rfl Try.underlying33 rfl) rfl rfl rfl ?_
      refine tr_val (ov_move rfl rfl) rfl rfl rfl ?_
      refine tr_nil (hK19 _ _ (TrC.keep [48, 47, 8, 17, 16, 5, 15, 14, 12, 0, 1] ?_))
      show TrC _ _ _ _ [(48, _), (47, _), (8, _), (17, _), (16, _), (5, _), (15, _), (14, _), (12, _), (0, _), (1, _)] _ _
      refine tr_block ?_
      refine tr_loop_ (X := Int) [47, 8, 17, 16, 5, 15, 14, 12, 0, 1] (fun j => [(48, .int .i64 j)]) (fun j w' => 0 ≤ j ∧ j ≤ R.length ∧ SH w noBlocks [vec A5 c5 40 2 encSpan R] w') (fun j => (R.length - j).toNat) (0) (Sub.cons rfl (Sub.cons rfl (Sub.cons rfl (Sub.cons rfl (Sub.cons rfl (Sub.cons rfl (Sub.cons rfl (Sub.cons rfl (Sub.cons rfl (Sub.cons rfl (Sub.cons rfl Sub.nil))))))))))) (⟨by omega, by omega, H⟩) ?_
      rintro j w10 ⟨hj0, hj1, H⟩ K20 hK20
      show TrC _ _ _ _ [(48, _), (47, _), (8, _), (17, _), (16, _), (5, _), (15, _), (14, _), (12, _), (0, _), (1, _)] _ _
      refine tr_seq (fun K21 hK21 => ?_)
      -- region 13: law.go:88
      refine tr_region ?_
      refine tr_val (ov_lss rfl rfl rfl) rfl rfl rfl ?_
      refine tr_nil (hK21 _ _ (TrC.keep [49, 48, 47, 8, 17, 16, 5, 15, 14, 12, 0, 1] ?_))
      show TrC _ _ _ _ [(49, _), (48, _), (47, _), (8, _), (17, _), (16, _), (5, _), (15, _), (14, _), (12, _), (0, _), (1, _)] _ _
      refine tr_seq (fun K22 hK22 => ?_)
      first | refine tr_cond rfl (fun c49 => ?_) (fun c49 => ?_) | refine tr_condb rfl (fun c49 => ?_) (fun c49 => ?_)
      · skip
        refine tr_skip (hK22 _ _ (TrC.keep [49, 48, 47, 8, 17, 16, 5, 15, 14, 12, 0, 1] ?_))
        show TrC _ _ _ _ [(49, _), (48, _), (47, _), (8, _), (17, _), (16, _), (5, _), (15, _), (14, _), (12, _), (0, _), (1, _)] _ _
        refine tr_seq (fun K23 hK23 => ?_)
        refine tr_block ?_
        refine tr_seq (fun K24 hK24 => ?_)
        -- region 14: law.go:88
        refine tr_region ?_
        refine tr_val (ov_move rfl rfl) rfl rfl rfl ?_
        refine tr_val (ov_assign rfl rfl) rfl rfl rfl ?_
        refine tr_nil (hK24 _ _ (TrC.keep [9, 49, 48, 47, 8, 17, 16, 5, 15, 14, 12, 0, 1] ?_))
        show TrC _ _ _ _ [(9, _), (49, _), (48, _), (47, _), (8, _), (17, _), (16, _), (5, _), (15, _), (14, _), (12, _), (0, _), (1, _)] _ _
        refine tr_seq (fun K25 hK25 => ?_)
        -- region 15: law.go:89
        refine tr_quiet mixed (by kernel_rfl) H ?_
        refine tq_val (fun _ H => ov_move rfl rfl) rfl rfl rfl ?_
        refine tq_val (fun _ H => ov_gtr rfl rfl rfl) rfl rfl rfl ?_
        refine tq_val (fun _ H => ov_move rfl rfl) rfl rfl rfl ?_
        first | refine tq_split (t := 53) rfl (fun s53 => ?_) (fun s53 => ?_) | refine tq_splitb (t := 53) rfl (fun s53 => ?_) (fun s53 => ?_)
        · skip
          refine tq_val (fun _ H => ov_move rfl rfl) rfl rfl rfl ?_
          refine tq_val (fun _ H => ov_move rfl rfl) rfl rfl rfl ?_
          refine tq_val (fun _ H => ov_indexAddrR (vec_rd H.get0 lenSpan (by decide)) rfl Try.underlying33 (Try.sizeOf40 _) rfl rfl (by omega) (by omega)) rfl rfl rfl ?_
          refine tq_val (fun _ H => ov_fieldAddr rfl Try.underlying40 rfl (Try.sizeOf2 _) (by decide) rfl) rfl rfl rfl ?_
          refine tq_val (fun _ H => ld_Span_0 (vec_rd H.get0 lenSpan (by decide)) rfl (Try.isAgg2 _) rfl (by omega) (by omega)) rfl rfl rfl ?_
          refine tq_val (fun _ H => ov_move rfl rfl) rfl rfl rfl ?_
          refine tq_val (fun _ H => ov_move rfl rfl) rfl rfl rfl ?_
          refine tq_val (fun _ H => ov_sub rfl rfl rfl (w64 (by omega))) rfl rfl rfl ?_
          refine tq_val (fun _ H => ov_indexAddrR (vec_rd H.get0 lenSpan (by decide)) rfl Try.underlying33 (Try.sizeOf40 _) rfl rfl (by omega) (by omega)) rfl rfl rfl ?_
          refine tq_val (fun _ H => ov_fieldAddr rfl Try.underlying40 rfl (Try.sizeOf2 _) (by decide) rfl) rfl rfl rfl ?_
          refine tq_val (fun _ H => ld_Span_1 (vec_rd H.get0 lenSpan (by decide)) rfl (Try.isAgg2 _) rfl (by omega) (by omega)) rfl rfl rfl ?_
          refine tq_val (fun _ H => ov_leq rfl rfl rfl) rfl rfl rfl ?_
          refine tq_val (fun _ H => ov_pick (vb := undef) rfl rfl rfl rfl) rfl rfl rfl ?_
          refine tq_nil ?_
          intro w11 H
          refine hK25 _ _ (TrC.keep [66, 49, 48, 47, 8, 17, 16, 5, 15, 14, 12, 0, 1] ?_)
          show TrC _ _ _ _ [(66, _), (49, _), (48, _), (47, _), (8, _), (17, _), (16, _), (5, _), (15, _), (14, _), (12, _), (0, _), (1, _)] _ _
          first | refine tr_cond rfl (fun c66 => ?_) (fun c66 => ?_) | refine tr_condb rfl (fun c66 => ?_) (fun c66 => ?_)
          · have hgap := hJ.gap (i := j) (by omega) (by omega)
            omega
          · skip
            refine tr_skip (hK23 _ _ (TrC.keep [66, 49, 48, 47, 8, 17, 16, 5, 15, 14, 12, 0, 1] ?_))
            show TrC _ _ _ _ [(66, _), (49, _), (48, _), (47, _), (8, _), (17, _), (16, _), (5, _), (15, _), (14, _), (12, _), (0, _), (1, _)] _ _
            -- region 17: law.go:88
            refine tr_region ?_
            refine tr_val (ov_add rfl rfl rfl (w64 (by omega))) rfl rfl rfl ?_
            refine tr_val (ov_move rfl rfl) rfl rfl rfl ?_
            skip
            exact tr_nil (hK20 (j + 1) _ _ (⟨by omega, by omega, H⟩) (by first | omega | (dsimp only; omega)) (Sub.cons rfl (Sub.cons rfl (Sub.cons rfl (Sub.cons rfl (Sub.cons rfl (Sub.cons rfl (Sub.cons rfl (Sub.cons rfl (Sub.cons rfl (Sub.cons rfl (Sub.cons rfl Sub.nil))))))))))))
        · skip
          refine tq_pass rfl rfl rfl ?_
          refine tq_pass rfl rfl rfl ?_
          refine tq_pass rfl rfl rfl ?_
          refine tq_pass rfl rfl rfl ?_
          refine tq_pass rfl rfl rfl ?_
          refine tq_pass rfl rfl rfl ?_
          refine tq_pass rfl rfl rfl ?_
          refine tq_pass rfl rfl rfl ?_
          refine tq_pass rfl rfl rfl ?_
          refine tq_pass rfl rfl rfl ?_
          refine tq_pass rfl rfl rfl ?_
          refine tq_pass rfl rfl rfl ?_
          refine tq_val (fun _ H => ov_pick_f (va := undef) rfl rfl rfl rfl) rfl rfl rfl ?_
          refine tq_nil ?_
          intro w12 H
          refine hK25 _ _ (TrC.keep [66, 49, 48, 47, 8, 17, 16, 5, 15, 14, 12, 0, 1] ?_)
          show TrC _ _ _ _ [(66, _), (49, _), (48, _), (47, _), (8, _), (17, _), (16, _), (5, _), (15, _), (14, _), (12, _), (0, _), (1, _)] _ _
          refine tr_cond_f rfl rfl ?_
          refine tr_skip (hK23 _ _ (TrC.keep [66, 49, 48, 47, 8, 17, 16, 5, 15, 14, 12, 0, 1] ?_))
          show TrC _ _ _ _ [(66, _), (49, _), (48, _), (47, _), (8, _), (17, _), (16, _), (5, _), (15, _), (14, _), (12, _), (0, _), (1, _)] _ _
          -- region 17: law.go:88
          refine tr_region ?_
          refine tr_val (ov_add rfl rfl rfl (w64 (by omega))) rfl rfl rfl ?_
          refine tr_val (ov_move rfl rfl) rfl rfl rfl ?_
          skip
          exact tr_nil (hK20 (j + 1) _ _ (⟨by omega, by omega, H⟩) (by first | omega | (dsimp only; omega)) (Sub.cons rfl (Sub.cons rfl (Sub.cons rfl (Sub.cons rfl (Sub.cons rfl (Sub.cons rfl (Sub.cons rfl (Sub.cons rfl (Sub.cons rfl (Sub.cons rfl (Sub.cons rfl Sub.nil))))))))))))
      · skip
        refine tr_exit (hK18 _ _ (TrC.keep [49, 48, 47, 8, 17, 16, 5, 15, 14, 12, 0, 1] ?_))
        show TrC _ _ _ _ [(49, _), (48, _), (47, _), (8, _), (17, _), (16, _), (5, _), (15, _), (14, _), (12, _), (0, _), (1, _)] _ _
        refine tr_seq (fun K26 hK26 => ?_)
        -- region 18: law.go:93
        have hin : ((L.take i.toNat).any (hasIn x)) = L.any (hasIn x) := by rw [List.take_of_length_le (by omega)]
        refine tr_region ?_
        refine tr_val (ov_move rfl rfl) rfl rfl rfl ?_
        refine tr_val (ov_move rfl rfl) rfl rfl rfl ?_
        refine tr_call (Has_c A5 c5 R _ (vec_rd H.get0 lenSpan (by decide)) (by omega) x) rfl rfl rfl Try.call37 rfl rfl rfl ?_
        rintro _ w13 ⟨rfl, HC⟩
        have H := H.call0n HC
        refine tr_val (ov_move rfl rfl) rfl rfl rfl ?_
        refine tr_val (ov_eqlb rfl Try.underlying4 rfl rfl) rfl rfl rfl ?_
        refine tr_val (ov_move rfl rfl) rfl rfl rfl ?_
        first | refine tr_split (t := 73) rfl (fun s73 => ?_) (fun s73 => ?_) | refine tr_splitb (t := 73) rfl (fun s73 => ?_) (fun s73 => ?_)
        · skip
          refine tr_val (ov_move rfl rfl) rfl rfl rfl ?_
          refine tr_val (ov_len rfl rfl Try.underlying33 rfl) rfl rfl rfl ?_
          refine tr_val (ov_move rfl rfl) rfl rfl rfl ?_
          refine tr_val (ov_len rfl rfl Try.underlying33 rfl) rfl rfl rfl ?_
          refine tr_val (ov_leq rfl rfl rfl) rfl rfl rfl ?_
          refine tr_val (ov_pick (vb := undef) rfl rfl rfl rfl) rfl rfl rfl ?_
          refine tr_val (ov_move rfl rfl) rfl rfl rfl ?_
          first | refine tr_split (t := 80) rfl (fun s80 => ?_) (fun s80 => ?_) | refine tr_splitb (t := 80) rfl (fun s80 => ?_) (fun s80 => ?_)
          · skip
            refine tr_call (lives07_c _) rfl rfl rfl Try.call34 rfl rfl rfl ?_
            rintro _ w14 ⟨rfl, HC⟩
            have H := H.call0n HC
            refine tr_val (ov_pick (vb := undef) rfl rfl rfl rfl) rfl rfl rfl ?_
            refine tr_val (ov_assign rfl rfl) rfl rfl rfl ?_
            refine tr_nil (hK26 _ _ (TrC.keep [4, 49, 48, 47, 8, 17, 16, 5, 15, 14, 12, 0, 1] ?_))
            show TrC _ _ _ _ [(4, _), (49, _), (48, _), (47, _), (8, _), (17, _), (16, _), (5, _), (15, _), (14, _), (12, _), (0, _), (1, _)] _ _
            refine tr_ret (post_ret1 (.inr rfl) rfl rfl ?_)
            exact ⟨rfl, H.drop0⟩
          · omega
        · rw [hhas, hin] at s73; simp at s73

end Go.Proofs.Ytnmglobfdlnenaa
