/- Contracts of the package almanac, of curfewref09, and of what they call. Conditions: none. -/
import Derived.Test.YtnmglobfdlnenaaSpanB
import Derived.Test.YtnmglobfdlnenaaSpA
import Derived.Test.YtnmglobfdlnenaaRng
namespace Go.Proofs.Ytnmglobfdlnenaa
open Go Go.RowKit
set_option linter.unusedVariables false
set_option linter.unusedSimpArgs false

/-! (*curfew/almanac.Almanac).all -/
set_option maxRecDepth 20000 in
theorem all_none (w : World) : Does Try.prog 55 #[.pointer none] w (fun v w' => v = .slice none 0 0 ∧ SH w noBlocks [] w') := by
  refine does_enter1 Try.func55 rfl Try.ntmps55 rfl ?_
  have H := SH.start w noBlocks
  refine tr_seq (fun K1 hK1 => ?_)
  -- region 0: almanac.go:24
  refine tr_region ?_
  refine tr_val (ov_assign rfl rfl) rfl rfl rfl ?_
  refine tr_nil (hK1 _ _ (TrC.keep [2, 0] ?_))
  show TrC _ _ _ _ [(2, _), (0, _)] _ _
  refine tr_seq (fun K2 hK2 => ?_)
  refine tr_seq (fun K3 hK3 => ?_)
  -- region 1: almanac.go:25
  refine tr_region ?_
  refine tr_val (ov_move rfl rfl) rfl rfl rfl ?_
  refine tr_val (ov_eql_nil rfl Try.underlying34 rfl rfl) rfl rfl rfl ?_
  refine tr_nil (hK3 _ _ (TrC.keep [4, 2, 0] ?_))
  show TrC _ _ _ _ [(4, _), (2, _), (0, _)] _ _
  refine tr_cond_t rfl (rfl) ?_
  refine tr_seq (fun K4 hK4 => ?_)
  -- region 2: almanac.go:26
  refine tr_region ?_
  refine tr_val (ov_assign rfl rfl) rfl rfl rfl ?_
  refine tr_nil (hK4 _ _ (TrC.keep [2, 4, 0] ?_))
  show TrC _ _ _ _ [(2, _), (4, _), (0, _)] _ _
  refine tr_ret (post_ret1 (.inr rfl) rfl rfl ?_)
  exact ⟨rfl, H⟩

/-! (*curfew/almanac.Almanac).all -/
set_option maxRecDepth 20000 in
theorem all_some (d : Nat) (A : Option Addr) (c : Nat) (L : List Sp) (w : World) (hb : (blk d 58 [.slice A L.length c]).holds w) : Does Try.prog 55 #[.pointer (some ⟨d, 0, none⟩)] w (fun v w' => v = .slice A L.length c ∧ SH w noBlocks [] w') := by
  refine does_enter1 Try.func55 rfl Try.ntmps55 rfl ?_
  have H := SH.start w noBlocks
  refine tr_seq (fun K1 hK1 => ?_)
  -- region 0: almanac.go:24
  refine tr_region ?_
  refine tr_val (ov_assign rfl rfl) rfl rfl rfl ?_
  refine tr_nil (hK1 _ _ (TrC.keep [2, 0] ?_))
  show TrC _ _ _ _ [(2, _), (0, _)] _ _
  refine tr_seq (fun K2 hK2 => ?_)
  refine tr_seq (fun K3 hK3 => ?_)
  -- region 1: almanac.go:25
  refine tr_region ?_
  refine tr_val (ov_move rfl rfl) rfl rfl rfl ?_
  refine tr_val (ov_eql_nil rfl Try.underlying34 rfl rfl) rfl rfl rfl ?_
  refine tr_nil (hK3 _ _ (TrC.keep [4, 2, 0] ?_))
  show TrC _ _ _ _ [(4, _), (2, _), (0, _)] _ _
  refine tr_cond_f rfl (rfl) ?_
  refine tr_skip (hK2 _ _ (TrC.keep [4, 2, 0] ?_))
  show TrC _ _ _ _ [(4, _), (2, _), (0, _)] _ _
  refine tr_seq (fun K4 hK4 => ?_)
  -- region 3: almanac.go:28
  refine tr_region ?_
  refine tr_val (ov_move rfl rfl) rfl rfl rfl ?_
  refine tr_val (ov_nilCheck rfl rfl) rfl rfl rfl ?_
  refine tr_val (ov_fieldAddr rfl Try.underlying58 rfl (Try.sizeOf33 _) (by decide) rfl) rfl rfl rfl ?_
  refine tr_val (ov_load_blk (H.blk0 hb) rfl (Try.isAgg33 _) rfl rfl rfl) rfl rfl rfl ?_
  refine tr_val (ov_assign rfl rfl) rfl rfl rfl ?_
  refine tr_nil (hK4 _ _ (TrC.keep [2, 4, 0] ?_))
  show TrC _ _ _ _ [(2, _), (4, _), (0, _)] _ _
  refine tr_ret (post_ret1 (.inr rfl) rfl rfl ?_)
  exact ⟨rfl, H⟩

theorem all_c (p : Option Addr) (L : List Sp) (w : World) (hA : Alm w p L) : Does Try.prog 55 #[.pointer p] w (fun v w' => ∃ A c, v = .slice A L.length c ∧ Rd w' A 2 (L.map encSpan) ∧ SH w noBlocks [] w') := by
  rcases hA with ⟨rfl, rfl⟩ | ⟨d, A, c, rfl, hb, hR⟩
  · exact (all_none w).mono fun v w' h => ⟨none, 0, h.1, Rd.nil, h.2⟩
  · exact (all_some d A c L w hb).mono fun v w' h => ⟨A, c, h.1, h.2.rd0 hR, h.2⟩

/-! curfew/almanac.New -/
set_option maxRecDepth 20000 in
theorem almNew_c (A : Option Addr) (c : Nat) (L : List Sp) (w : World) (hR : Rd w A 2 (L.map encSpan)) (hL : L.length ≤ 4294967296) : Does Try.prog 18 #[.slice A L.length c] w (fun v w' => ∃ p g, v = .tuple #[.pointer p, .int .i64 (rowV L)] ∧ (rowV L ≠ 0 → p = none) ∧ (rowV L = 0 → p.isSome = true) ∧ SH w noBlocks [alm p g (if rowV L = 0 then L else [])] w') := by
  refine does_enter1 Try.func18 rfl Try.ntmps18 rfl ?_
  have H := SH.start w noBlocks
  refine tr_seq (fun K1 hK1 => ?_)
  -- region 0: almanac.go:16
  refine tr_region ?_
  refine tr_val (ov_assign rfl rfl) rfl rfl rfl ?_
  refine tr_val (ov_assign rfl rfl) rfl rfl rfl ?_
  refine tr_nil (hK1 _ _ (TrC.keep [3, 2, 0] ?_))
  show TrC _ _ _ _ [(3, _), (2, _), (0, _)] _ _
  refine tr_seq (fun K2 hK2 => ?_)
  refine tr_seq (fun K3 hK3 => ?_)
  -- region 1: almanac.go:17
  refine tr_region ?_
  refine tr_val (ov_move rfl rfl) rfl rfl rfl ?_
  refine tr_call (Row_c A c L _ (H.rd0 hR) hL) rfl rfl rfl Try.call38 rfl rfl rfl ?_
  rintro _ w1 ⟨rfl, HC⟩
  have H := H.call0n HC
  refine tr_val (ov_assign rfl rfl) rfl rfl rfl ?_
  refine tr_nil (hK3 _ _ (TrC.keep [4, 3, 2, 0] ?_))
  show TrC _ _ _ _ [(4, _), (3, _), (2, _), (0, _)] _ _
  refine tr_seq (fun K4 hK4 => ?_)
  -- region 2: almanac.go:17
  refine tr_region ?_
  refine tr_val (ov_move rfl rfl) rfl rfl rfl ?_
  refine tr_val (ov_neq rfl rfl rfl) rfl rfl rfl ?_
  refine tr_nil (hK4 _ _ (TrC.keep [8, 4, 3, 2, 0] ?_))
  show TrC _ _ _ _ [(8, _), (4, _), (3, _), (2, _), (0, _)] _ _
  first | refine tr_cond rfl (fun c8 => ?_) (fun c8 => ?_) | refine tr_condb rfl (fun c8 => ?_) (fun c8 => ?_)
  · skip
    refine tr_seq (fun K5 hK5 => ?_)
    -- region 3: almanac.go:18
    refine tr_region ?_
    refine tr_val (ov_move rfl rfl) rfl rfl rfl ?_
    refine tr_val (ov_assign rfl rfl) rfl rfl rfl ?_
    refine tr_val (ov_assign rfl rfl) rfl rfl rfl ?_
    refine tr_nil (hK5 _ _ (TrC.keep [3, 2, 8, 4, 0] ?_))
    show TrC _ _ _ _ [(3, _), (2, _), (8, _), (4, _), (0, _)] _ _
    refine tr_ret (post_ret2 (.inr rfl) rfl rfl rfl ?_)
    exact ⟨none, none, rfl, fun _ => rfl, fun h => absurd h c8, by rw [if_neg c8]; exact H.addAlm⟩
  · skip
    refine tr_skip (hK2 _ _ (TrC.keep [8, 4, 3, 2, 0] ?_))
    show TrC _ _ _ _ [(8, _), (4, _), (3, _), (2, _), (0, _)] _ _
    refine tr_seq (fun K6 hK6 => ?_)
    -- region 4: almanac.go:20
    refine tr_region ?_
    refine tr_val (ov_move rfl rfl) rfl rfl rfl ?_
    refine tr_call (Clone_c A c L _ (H.rd0 hR) hL) rfl rfl rfl Try.call54 rfl rfl rfl ?_
    rintro _ w2 ⟨A', c', rfl, HC⟩
    have H := H.call0r HC
    have H := H.upd0 (upd_rdr_of_vec H.get0 lenSpan (by decide))
    refine tr_val (ov_build rfl (fun ρ k => bs1 k rfl) (bld58_0 _ _ _ _)) rfl rfl rfl ?_
    refine tr_box H rfl rfl rfl rfl rfl rfl ?_
    intro d w3 hd H
    have hne : A'.map (·.block) ≠ some d := by intro h; exact (List.pairwise_cons.mp H.disj).1 (rdr A' 2 (L.map encSpan)) (by simp) d rfl (by cases A' with | none => cases h | some a => injection h)
    refine tr_val (ov_assign rfl rfl) rfl rfl rfl ?_
    refine tr_val (ov_assign rfl rfl) rfl rfl rfl ?_
    refine tr_nil (hK6 _ _ (TrC.keep [3, 2, 8, 4, 0] ?_))
    show TrC _ _ _ _ [(3, _), (2, _), (8, _), (4, _), (0, _)] _ _
    refine tr_ret (post_ret2 (.inr rfl) rfl rfl rfl ?_)
    have h0 : rowV L = 0 := by omega
    rw [h0]
    exact ⟨_, _, rfl, fun h => absurd rfl h, fun _ => rfl, by rw [if_pos rfl]; exact alm_shut H hne⟩

/-! (*curfew/almanac.Almanac).Next$1 -/
set_option maxRecDepth 20000 in
theorem Next1_c (s : Sp) (b : Nat) (x : Int) (w : World) (hb : (blk b 2 [.int .i64 x]).holds w) : Does Try.prog 57 #[.agg #[.int .i64 s.1, .int .i64 s.2], .pointer (some ⟨b, 0, none⟩)] w (fun v w' => v = .bool (isNext x s) ∧ SH w noBlocks [] w') := by
  refine does_enter2 Try.func57 rfl Try.ntmps57 rfl ?_
  have H := SH.start w noBlocks
  refine tr_seq (fun K1 hK1 => ?_)
  -- region 0: almanac.go:37
  refine tr_region ?_
  refine tr_box H rfl rfl rfl rfl rfl rfl ?_
  intro b1 w1 hb1 H
  refine tr_val (ov_assign rfl rfl) rfl rfl rfl ?_
  refine tr_nil (hK1 _ _ (TrC.keep [3, 2, 1] ?_))
  show TrC _ _ _ _ [(3, _), (2, _), (1, _)] _ _
  refine tr_seq (fun K2 hK2 => ?_)
  -- region 1: almanac.go:37
  refine tr_region ?_
  refine tr_val (ov_fieldAddr rfl Try.underlying40 rfl (Try.sizeOf2 _) (by decide) rfl) rfl rfl rfl ?_
  first | refine tr_val (ov_load_blk H.get0 rfl (Try.isAgg2 _) rfl rfl rfl) rfl rfl rfl ?_ | refine tr_val (ov_load_blk H.get1 rfl (Try.isAgg2 _) rfl rfl rfl) rfl rfl rfl ?_ | refine tr_val (ov_load_blk H.get2 rfl (Try.isAgg2 _) rfl rfl rfl) rfl rfl rfl ?_ | refine tr_val (ov_load_blk H.get3 rfl (Try.isAgg2 _) rfl rfl rfl) rfl rfl rfl ?_ | refine tr_val (ov_load_blk H.get4 rfl (Try.isAgg2 _) rfl rfl rfl) rfl rfl rfl ?_ | refine tr_val (ov_load_blk H.get5 rfl (Try.isAgg2 _) rfl rfl rfl) rfl rfl rfl ?_
  refine tr_val (ov_load_blk (H.blk0 hb) rfl (Try.isAgg2 _) rfl rfl rfl) rfl rfl rfl ?_
  refine tr_val (ov_gtr rfl rfl rfl) rfl rfl rfl ?_
  refine tr_val (ov_assign rfl rfl) rfl rfl rfl ?_
  refine tr_nil (hK2 _ _ (TrC.keep [3] ?_))
  show TrC _ _ _ _ [(3, _)] _ _
  refine tr_ret (post_ret1 (.inr rfl) rfl rfl ?_)
  exact ⟨rfl, H.drop0⟩

/-! (*curfew/almanac.Almanac).Next -/
set_option maxRecDepth 20000 in
theorem Next_c (p : Option Addr) (L : List Sp) (w : World) (hA : Alm w p L) (x : Int) (hL : L.length ≤ 4294967296) : Does Try.prog 20 #[.pointer p, .int .i64 x] w (fun v w' => v = nextT (nextO L x) ∧ SH w noBlocks [] w') := by
  refine does_enter2 Try.func20 rfl Try.ntmps20 rfl ?_
  have H := SH.start w noBlocks
  refine tr_seq (fun K1 hK1 => ?_)
  -- region 0: almanac.go:35
  refine tr_region ?_
  refine tr_box H rfl rfl rfl rfl rfl rfl ?_
  intro b1 w1 hb1 H
  refine tr_alloc H rfl (Try.zeroValue40 _) rfl rfl rfl rfl ?_
  intro b2 w2 hb2 H
  refine tr_val (ov_assign rfl rfl) rfl rfl rfl ?_
  refine tr_nil (hK1 _ _ (TrC.keep [5, 4, 3, 0] ?_))
  show TrC _ _ _ _ [(5, _), (4, _), (3, _), (0, _)] _ _
  refine tr_seq (fun K2 hK2 => ?_)
  -- region 1: almanac.go:36
  refine tr_region ?_
  refine tr_val (ov_move rfl rfl) rfl rfl rfl ?_
  refine tr_call (all_c p L _ (hA.later H)) rfl rfl rfl Try.call55 rfl rfl rfl ?_
  rintro _ w3 ⟨A, c, rfl, hR0, HC⟩
  have H := H.call0n HC
  refine tr_val (ov_assign rfl rfl) rfl rfl rfl ?_
  refine tr_nil (hK2 _ _ (TrC.keep [6, 5, 4, 3] ?_))
  show TrC _ _ _ _ [(6, _), (5, _), (4, _), (3, _)] _ _
  refine tr_seq (fun K3 hK3 => ?_)
  -- region 2: almanac.go:37
  refine tr_region ?_
  refine tr_val (ov_move rfl rfl) rfl rfl rfl ?_
  refine tr_val (ov_makeFunc1 rfl rfl) rfl rfl rfl ?_
  refine tr_call (IndexFunc_c A c L _ hR0 hL 57 [.pointer (some ⟨b1, 0, none⟩)] (isNext x) Try.call57 (fun s w' h => Next1_c s b1 x w' (h.blk0 H.get1))) rfl rfl rfl Try.call56 rfl rfl rfl ?_
  rintro _ w4 ⟨rfl, HC⟩
  have hR1 := HC.rd0 hR0
  have H := H.call0n HC
  have hix := idx_find (p := isNext x) L 0 (by omega)
  generalize hj : idxFrom (isNext x) 0 L = j at hix ⊢
  refine tr_val (ov_assign rfl rfl) rfl rfl rfl ?_
  refine tr_nil (hK3 _ _ (TrC.keep [7, 6, 5, 4] ?_))
  show TrC _ _ _ _ [(7, _), (6, _), (5, _), (4, _)] _ _
  refine tr_seq (fun K4 hK4 => ?_)
  refine tr_seq (fun K5 hK5 => ?_)
  -- region 3: almanac.go:38
  refine tr_region ?_
  refine tr_val (ov_move rfl rfl) rfl rfl rfl ?_
  refine tr_val (ov_lss rfl rfl rfl) rfl rfl rfl ?_
  refine tr_nil (hK5 _ _ (TrC.keep [14, 7, 6, 5, 4] ?_))
  show TrC _ _ _ _ [(14, _), (7, _), (6, _), (5, _), (4, _)] _ _
  first | refine tr_cond rfl (fun c14 => ?_) (fun c14 => ?_) | refine tr_condb rfl (fun c14 => ?_) (fun c14 => ?_)
  · skip
    refine tr_seq (fun K6 hK6 => ?_)
    -- region 4: almanac.go:39
    refine tr_region ?_
    refine tr_val (ov_build rfl (fun ρ k => bs0 k) (bld40 _)) rfl rfl rfl ?_
    first | (refine tr_storeW H.get0 rfl (Try.sizeOf40 _) rfl rfl rfl rfl rfl rfl rfl rfl ?_; intro w5 U; have H := H.upd0 U; clear U) | (refine tr_storeW H.get1 rfl (Try.sizeOf40 _) rfl rfl rfl rfl rfl rfl rfl rfl ?_; intro w5 U; have H := H.upd1 U; clear U) | (refine tr_storeW H.get2 rfl (Try.sizeOf40 _) rfl rfl rfl rfl rfl rfl rfl rfl ?_; intro w5 U; have H := H.upd2 U; clear U) | (refine tr_storeW H.get3 rfl (Try.sizeOf40 _) rfl rfl rfl rfl rfl rfl rfl rfl ?_; intro w5 U; have H := H.upd3 U; clear U) | (refine tr_storeW H.get4 rfl (Try.sizeOf40 _) rfl rfl rfl rfl rfl rfl rfl rfl ?_; intro w5 U; have H := H.upd4 U; clear U) | (refine tr_storeW H.get5 rfl (Try.sizeOf40 _) rfl rfl rfl rfl rfl rfl rfl rfl ?_; intro w5 U; have H := H.upd5 U; clear U)
    refine tr_val (ov_assign rfl rfl) rfl rfl rfl ?_
    refine tr_nil (hK6 _ _ (TrC.keep [5, 14, 7, 6, 4] ?_))
    show TrC _ _ _ _ [(5, _), (14, _), (7, _), (6, _), (4, _)] _ _
    refine tr_ret (post_ret2 (.inr rfl) rfl (by first | exact ⟨_, rfl, res_blkN H.get0 (Try.isAgg40 _) (Try.sizeOf40 _) rfl rfl⟩ | exact ⟨_, rfl, res_blkN H.get1 (Try.isAgg40 _) (Try.sizeOf40 _) rfl rfl⟩ | exact ⟨_, rfl, res_blkN H.get2 (Try.isAgg40 _) (Try.sizeOf40 _) rfl rfl⟩ | exact ⟨_, rfl, res_blkN H.get3 (Try.isAgg40 _) (Try.sizeOf40 _) rfl rfl⟩ | exact ⟨_, rfl, res_blkN H.get4 (Try.isAgg40 _) (Try.sizeOf40 _) rfl rfl⟩ | exact ⟨_, rfl, res_blkN H.get5 (Try.isAgg40 _) (Try.sizeOf40 _) rfl rfl⟩) rfl ?_)
    have hn : nextO L x = none := (hix.resolve_right (by omega)).2
    rw [hn]; exact ⟨rfl, H.drop0.drop0⟩
  · skip
    refine tr_skip (hK4 _ _ (TrC.keep [14, 7, 6, 5, 4] ?_))
    show TrC _ _ _ _ [(14, _), (7, _), (6, _), (5, _), (4, _)] _ _
    refine tr_seq (fun K7 hK7 => ?_)
    -- region 5: almanac.go:41
    obtain ⟨hj0, hj1, hj2⟩ := hix.resolve_left (by omega)
    rw [Int.sub_zero] at hj2
    refine tr_region ?_
    refine tr_val (ov_move rfl rfl) rfl rfl rfl ?_
    refine tr_val (ov_move rfl rfl) rfl rfl rfl ?_
    refine tr_val (ov_indexAddrR hR1 rfl Try.underlying33 (Try.sizeOf40 _) rfl rfl (by omega) (by omega)) rfl rfl rfl ?_
    refine tr_val (ld_Span hR1 rfl (Try.isAgg40 _) (Try.sizeOf40 _) rfl (by omega) (by omega)) rfl rfl rfl ?_
    first | (refine tr_storeW H.get0 rfl (Try.sizeOf40 _) rfl rfl rfl rfl rfl rfl rfl rfl ?_; intro w6 U; have H := H.upd0 U; clear U) | (refine tr_storeW H.get1 rfl (Try.sizeOf40 _) rfl rfl rfl rfl rfl rfl rfl rfl ?_; intro w6 U; have H := H.upd1 U; clear U) | (refine tr_storeW H.get2 rfl (Try.sizeOf40 _) rfl rfl rfl rfl rfl rfl rfl rfl ?_; intro w6 U; have H := H.upd2 U; clear U) | (refine tr_storeW H.get3 rfl (Try.sizeOf40 _) rfl rfl rfl rfl rfl rfl rfl rfl ?_; intro w6 U; have H := H.upd3 U; clear U) | (refine tr_storeW H.get4 rfl (Try.sizeOf40 _) rfl rfl rfl rfl rfl rfl rfl rfl ?_; intro w6 U; have H := H.upd4 U; clear U) | (refine tr_storeW H.get5 rfl (Try.sizeOf40 _) rfl rfl rfl rfl rfl rfl rfl rfl ?_; intro w6 U; have H := H.upd5 U; clear U)
    refine tr_val (ov_assign rfl rfl) rfl rfl rfl ?_
    refine tr_nil (hK7 _ _ (TrC.keep [5, 14, 7, 6, 4] ?_))
    show TrC _ _ _ _ [(5, _), (14, _), (7, _), (6, _), (4, _)] _ _
    refine tr_ret (post_ret2 (.inr rfl) rfl (by first | exact ⟨_, rfl, res_blkN H.get0 (Try.isAgg40 _) (Try.sizeOf40 _) rfl rfl⟩ | exact ⟨_, rfl, res_blkN H.get1 (Try.isAgg40 _) (Try.sizeOf40 _) rfl rfl⟩ | exact ⟨_, rfl, res_blkN H.get2 (Try.isAgg40 _) (Try.sizeOf40 _) rfl rfl⟩ | exact ⟨_, rfl, res_blkN H.get3 (Try.isAgg40 _) (Try.sizeOf40 _) rfl rfl⟩ | exact ⟨_, rfl, res_blkN H.get4 (Try.isAgg40 _) (Try.sizeOf40 _) rfl rfl⟩ | exact ⟨_, rfl, res_blkN H.get5 (Try.isAgg40 _) (Try.sizeOf40 _) rfl rfl⟩) rfl ?_)
    have hn : nextO L x = some (gt L j) := hj2
    rw [hn]; exact ⟨rfl, H.drop0.drop0⟩

/-! curfew/curfewref09.Next -/
set_option maxRecDepth 20000 in
theorem NextR_c (A : Option Addr) (c : Nat) (L : List Sp) (w : World) (hR : Rd w A 2 (L.map encSpan)) (hL : L.length ≤ 4294967296) (x : Int) : Does Try.prog 21 #[.slice A L.length c, .int .i64 x] w (fun v w' => v = nextT (nextO L x) ∧ SH w noBlocks [] w') := by
  refine does_enter2 Try.func21 rfl Try.ntmps21 rfl ?_
  have H := SH.start w noBlocks
  refine tr_seq (fun K1 hK1 => ?_)
  -- region 0: ref.go:10
  refine tr_region ?_
  refine tr_alloc H rfl (Try.zeroValue40 _) rfl rfl rfl rfl ?_
  intro b1 w1 hb1 H
  refine tr_val (ov_assign rfl rfl) rfl rfl rfl ?_
  refine tr_nil (hK1 _ _ (TrC.keep [5, 4, 0, 1] ?_))
  show TrC _ _ _ _ [(5, _), (4, _), (0, _), (1, _)] _ _
  refine tr_seq (fun K2 hK2 => ?_)
  refine tr_seq (fun K3 hK3 => ?_)
  -- region 1: ref.go:11
  refine tr_region ?_
  refine tr_val (ov_assign rfl rfl) rfl rfl rfl ?_
  refine tr_nil (hK3 _ _ (TrC.keep [6, 5, 4, 0, 1] ?_))
  show TrC _ _ _ _ [(6, _), (5, _), (4, _), (0, _), (1, _)] _ _
  refine tr_block ?_
  refine tr_loop_ (X := Int) [4, 0, 1] (fun i => [(6, .int .i64 i)]) (fun i w' => 0 ≤ i ∧ i ≤ L.length ∧ nextO (L.drop i.toNat) x = nextO L x ∧ SH w noBlocks [blk b1 40 [.int .i64 0, .int .i64 0]] w') (fun i => (L.length - i).toNat) (0) (Sub.cons rfl (Sub.cons rfl (Sub.cons rfl (Sub.cons rfl Sub.nil)))) (⟨by omega, by omega, rfl, H⟩) ?_
  rintro i w2 ⟨hi0, hi1, hx, H⟩ K4 hK4
  show TrC _ _ _ _ [(6, _), (4, _), (0, _), (1, _)] _ _
  refine tr_seq (fun K5 hK5 => ?_)
  refine tr_seq (fun K6 hK6 => ?_)
  -- region 2: ref.go:11
  refine tr_region ?_
  refine tr_val (ov_move rfl rfl) rfl rfl rfl ?_
  refine tr_val (ov_move rfl rfl) rfl rfl rfl ?_
  refine tr_val (ov_len rfl rfl Try.underlying33 rfl) rfl rfl rfl ?_
  refine tr_val (ov_lss rfl rfl rfl) rfl rfl rfl ?_
  refine tr_nil (hK6 _ _ (TrC.keep [10, 6, 4, 0, 1] ?_))
  show TrC _ _ _ _ [(10, _), (6, _), (4, _), (0, _), (1, _)] _ _
  first | refine tr_cond rfl (fun c10 => ?_) (fun c10 => ?_) | refine tr_condb rfl (fun c10 => ?_) (fun c10 => ?_)
  · skip
    refine tr_skip (hK5 _ _ (TrC.keep [10, 6, 4, 0, 1] ?_))
    show TrC _ _ _ _ [(10, _), (6, _), (4, _), (0, _), (1, _)] _ _
    refine tr_seq (fun K7 hK7 => ?_)
    refine tr_block ?_
    refine tr_seq (fun K8 hK8 => ?_)
    -- region 4: ref.go:12
    refine tr_region ?_
    refine tr_val (ov_move rfl rfl) rfl rfl rfl ?_
    refine tr_val (ov_move rfl rfl) rfl rfl rfl ?_
    refine tr_val (ov_indexAddrR (H.rd0 hR) rfl Try.underlying33 (Try.sizeOf40 _) rfl rfl (by omega) (by omega)) rfl rfl rfl ?_
    refine tr_val (ov_fieldAddr rfl Try.underlying40 rfl (Try.sizeOf2 _) (by decide) rfl) rfl rfl rfl ?_
    refine tr_val (ld_Span_1 (H.rd0 hR) rfl (Try.isAgg2 _) rfl (by omega) (by omega)) rfl rfl rfl ?_
    refine tr_val (ov_move rfl rfl) rfl rfl rfl ?_
    refine tr_val (ov_gtr rfl rfl rfl) rfl rfl rfl ?_
    refine tr_nil (hK8 _ _ (TrC.keep [19, 10, 6, 4, 0, 1] ?_))
    show TrC _ _ _ _ [(19, _), (10, _), (6, _), (4, _), (0, _), (1, _)] _ _
    first | refine tr_cond rfl (fun c19 => ?_) (fun c19 => ?_) | refine tr_condb rfl (fun c19 => ?_) (fun c19 => ?_)
    · skip
      refine tr_seq (fun K9 hK9 => ?_)
      -- region 5: ref.go:13
      refine tr_region ?_
      refine tr_val (ov_move rfl rfl) rfl rfl rfl ?_
      refine tr_val (ov_move rfl rfl) rfl rfl rfl ?_
      refine tr_val (ov_indexAddrR (H.rd0 hR) rfl Try.underlying33 (Try.sizeOf40 _) rfl rfl (by omega) (by omega)) rfl rfl rfl ?_
      refine tr_val (ld_Span (H.rd0 hR) rfl (Try.isAgg40 _) (Try.sizeOf40 _) rfl (by omega) (by omega)) rfl rfl rfl ?_
      first | (refine tr_storeW H.get0 rfl (Try.sizeOf40 _) rfl rfl rfl rfl rfl rfl rfl rfl ?_; intro w3 U; have H := H.upd0 U; clear U) | (refine tr_storeW H.get1 rfl (Try.sizeOf40 _) rfl rfl rfl rfl rfl rfl rfl rfl ?_; intro w3 U; have H := H.upd1 U; clear U) | (refine tr_storeW H.get2 rfl (Try.sizeOf40 _) rfl rfl rfl rfl rfl rfl rfl rfl ?_; intro w3 U; have H := H.upd2 U; clear U) | (refine tr_storeW H.get3 rfl (Try.sizeOf40 _) rfl rfl rfl rfl rfl rfl rfl rfl ?_; intro w3 U; have H := H.upd3 U; clear U) | (refine tr_storeW H.get4 rfl (Try.sizeOf40 _) rfl rfl rfl rfl rfl rfl rfl rfl ?_; intro w3 U; have H := H.upd4 U; clear U) | (refine tr_storeW H.get5 rfl (Try.sizeOf40 _) rfl rfl rfl rfl rfl rfl rfl rfl ?_; intro w3 U; have H := H.upd5 U; clear U)
      refine tr_val (ov_assign rfl rfl) rfl rfl rfl ?_
      refine tr_nil (hK9 _ _ (TrC.keep [5, 19, 10, 6, 4, 0, 1] ?_))
      show TrC _ _ _ _ [(5, _), (19, _), (10, _), (6, _), (4, _), (0, _), (1, _)] _ _
      refine tr_ret (post_ret2 (.inr rfl) rfl (by first | exact ⟨_, rfl, res_blkN H.get0 (Try.isAgg40 _) (Try.sizeOf40 _) rfl rfl⟩ | exact ⟨_, rfl, res_blkN H.get1 (Try.isAgg40 _) (Try.sizeOf40 _) rfl rfl⟩ | exact ⟨_, rfl, res_blkN H.get2 (Try.isAgg40 _) (Try.sizeOf40 _) rfl rfl⟩ | exact ⟨_, rfl, res_blkN H.get3 (Try.isAgg40 _) (Try.sizeOf40 _) rfl rfl⟩ | exact ⟨_, rfl, res_blkN H.get4 (Try.isAgg40 _) (Try.sizeOf40 _) rfl rfl⟩ | exact ⟨_, rfl, res_blkN H.get5 (Try.isAgg40 _) (Try.sizeOf40 _) rfl rfl⟩) rfl ?_)
      rw [← hx, next_hit hi0 (by omega) (decide_eq_true (by omega))]; exact ⟨rfl, H.drop0⟩
    · skip
      refine tr_skip (hK7 _ _ (TrC.keep [19, 10, 6, 4, 0, 1] ?_))
      show TrC _ _ _ _ [(19, _), (10, _), (6, _), (4, _), (0, _), (1, _)] _ _
      -- region 3: ref.go:11
      refine tr_region ?_
      refine tr_val (ov_move rfl rfl) rfl rfl rfl ?_
      refine tr_val (ov_add rfl rfl rfl (w64 (by omega))) rfl rfl rfl ?_
      refine tr_val (ov_assign rfl rfl) rfl rfl rfl ?_
      skip
      exact tr_nil (hK4 (i + 1) _ _ (⟨by omega, by omega, (next_step hi0 (by omega) (decide_eq_false (by omega))).symm.trans hx, H⟩) (by first | omega | (dsimp only; omega)) (Sub.cons rfl (Sub.cons rfl (Sub.cons rfl (Sub.cons rfl Sub.nil)))))
  · skip
    refine tr_exit (hK2 _ _ (TrC.keep [10, 6, 4, 0, 1] ?_))
    show TrC _ _ _ _ [(10, _), (6, _), (4, _), (0, _), (1, _)] _ _
    refine tr_seq (fun K10 hK10 => ?_)
    -- region 6: ref.go:16
    refine tr_region ?_
    refine tr_val (ov_build rfl (fun ρ k => bs0 k) (bld40 _)) rfl rfl rfl ?_
    first | (refine tr_storeW H.get0 rfl (Try.sizeOf40 _) rfl rfl rfl rfl rfl rfl rfl rfl ?_; intro w4 U; have H := H.upd0 U; clear U) | (refine tr_storeW H.get1 rfl (Try.sizeOf40 _) rfl rfl rfl rfl rfl rfl rfl rfl ?_; intro w4 U; have H := H.upd1 U; clear U) | (refine tr_storeW H.get2 rfl (Try.sizeOf40 _) rfl rfl rfl rfl rfl rfl rfl rfl ?_; intro w4 U; have H := H.upd2 U; clear U) | (refine tr_storeW H.get3 rfl (Try.sizeOf40 _) rfl rfl rfl rfl rfl rfl rfl rfl ?_; intro w4 U; have H := H.upd3 U; clear U) | (refine tr_storeW H.get4 rfl (Try.sizeOf40 _) rfl rfl rfl rfl rfl rfl rfl rfl ?_; intro w4 U; have H := H.upd4 U; clear U) | (refine tr_storeW H.get5 rfl (Try.sizeOf40 _) rfl rfl rfl rfl rfl rfl rfl rfl ?_; intro w4 U; have H := H.upd5 U; clear U)
    refine tr_val (ov_assign rfl rfl) rfl rfl rfl ?_
    refine tr_nil (hK10 _ _ (TrC.keep [5, 10, 6, 4, 0, 1] ?_))
    show TrC _ _ _ _ [(5, _), (10, _), (6, _), (4, _), (0, _), (1, _)] _ _
    refine tr_ret (post_ret2 (.inr rfl) rfl (by first | exact ⟨_, rfl, res_blkN H.get0 (Try.isAgg40 _) (Try.sizeOf40 _) rfl rfl⟩ | exact ⟨_, rfl, res_blkN H.get1 (Try.isAgg40 _) (Try.sizeOf40 _) rfl rfl⟩ | exact ⟨_, rfl, res_blkN H.get2 (Try.isAgg40 _) (Try.sizeOf40 _) rfl rfl⟩ | exact ⟨_, rfl, res_blkN H.get3 (Try.isAgg40 _) (Try.sizeOf40 _) rfl rfl⟩ | exact ⟨_, rfl, res_blkN H.get4 (Try.isAgg40 _) (Try.sizeOf40 _) rfl rfl⟩ | exact ⟨_, rfl, res_blkN H.get5 (Try.isAgg40 _) (Try.sizeOf40 _) rfl rfl⟩) rfl ?_)
    rw [← hx, drop_end (by omega)]; exact ⟨rfl, H.drop0⟩

/-! (*curfew/almanac.Almanac).Closed -/
set_option maxRecDepth 20000 in
theorem Closed_c (p : Option Addr) (L : List Sp) (w : World) (hA : Alm w p L) (x : Int) (hL : L.length ≤ 4294967296) : Does Try.prog 22 #[.pointer p, .int .i64 x] w (fun v w' => v = .bool (closedV L x) ∧ SH w noBlocks [] w') := by
  refine does_enter2 Try.func22 rfl Try.ntmps22 rfl ?_
  have H := SH.start w noBlocks
  refine tr_seq (fun K1 hK1 => ?_)
  -- region 0: almanac.go:45
  refine tr_region ?_
  refine tr_val (ov_assign rfl rfl) rfl rfl rfl ?_
  refine tr_nil (hK1 _ _ (TrC.keep [4, 0, 1] ?_))
  show TrC _ _ _ _ [(4, _), (0, _), (1, _)] _ _
  refine tr_seq (fun K2 hK2 => ?_)
  -- region 1: almanac.go:46
  refine tr_region ?_
  refine tr_val (ov_move rfl rfl) rfl rfl rfl ?_
  refine tr_val (ov_move rfl rfl) rfl rfl rfl ?_
  refine tr_call (Next_c p L _ (hA.later H) x hL) rfl rfl rfl Try.call20 rfl rfl rfl ?_
  rintro _ w1 ⟨rfl, HC⟩
  have H := H.call0n HC
  refine tr_val (ov_move rfl rfl) rfl rfl rfl ?_
  refine tr_val (ov_extract rfl rfl rfl) rfl rfl rfl ?_
  refine tr_val (ov_extract rfl rfl rfl) rfl rfl rfl ?_
  refine tr_alloc H rfl (Try.zeroValue40 _) rfl rfl rfl rfl ?_
  intro b1 w2 hb1 H
  first | (refine tr_storeW H.get0 rfl (Try.sizeOf40 _) rfl rfl rfl rfl rfl rfl rfl rfl ?_; intro w3 U; have H := H.upd0 U; clear U) | (refine tr_storeW H.get1 rfl (Try.sizeOf40 _) rfl rfl rfl rfl rfl rfl rfl rfl ?_; intro w3 U; have H := H.upd1 U; clear U) | (refine tr_storeW H.get2 rfl (Try.sizeOf40 _) rfl rfl rfl rfl rfl rfl rfl rfl ?_; intro w3 U; have H := H.upd2 U; clear U) | (refine tr_storeW H.get3 rfl (Try.sizeOf40 _) rfl rfl rfl rfl rfl rfl rfl rfl ?_; intro w3 U; have H := H.upd3 U; clear U) | (refine tr_storeW H.get4 rfl (Try.sizeOf40 _) rfl rfl rfl rfl rfl rfl rfl rfl ?_; intro w3 U; have H := H.upd4 U; clear U) | (refine tr_storeW H.get5 rfl (Try.sizeOf40 _) rfl rfl rfl rfl rfl rfl rfl rfl ?_; intro w3 U; have H := H.upd5 U; clear U)
  refine tr_val (ov_assign rfl rfl) rfl rfl rfl ?_
  refine tr_nil (hK2 _ _ (TrC.keep [6, 5, 4, 1] ?_))
  show TrC _ _ _ _ [(6, _), (5, _), (4, _), (1, _)] _ _
  refine tr_seq (fun K3 hK3 => ?_)
  -- region 2: almanac.go:47
  refine tr_region ?_
  refine tr_val (ov_move rfl rfl) rfl rfl rfl ?_
  refine tr_val (ov_move rfl rfl) rfl rfl rfl ?_
  first | refine tr_split (t := 14) rfl (fun s14 => ?_) (fun s14 => ?_) | refine tr_splitb (t := 14) rfl (fun s14 => ?_) (fun s14 => ?_)
  · skip
    refine tr_val (ov_fieldAddr rfl Try.underlying40 rfl (Try.sizeOf2 _) (by decide) rfl) rfl rfl rfl ?_
    first | refine tr_val (ov_load_blk H.get0 rfl (Try.isAgg2 _) rfl rfl rfl) rfl rfl rfl ?_ | refine tr_val (ov_load_blk H.get1 rfl (Try.isAgg2 _) rfl rfl rfl) rfl rfl rfl ?_ | refine tr_val (ov_load_blk H.get2 rfl (Try.isAgg2 _) rfl rfl rfl) rfl rfl rfl ?_ | refine tr_val (ov_load_blk H.get3 rfl (Try.isAgg2 _) rfl rfl rfl) rfl rfl rfl ?_ | refine tr_val (ov_load_blk H.get4 rfl (Try.isAgg2 _) rfl rfl rfl) rfl rfl rfl ?_ | refine tr_val (ov_load_blk H.get5 rfl (Try.isAgg2 _) rfl rfl rfl) rfl rfl rfl ?_
    refine tr_val (ov_move rfl rfl) rfl rfl rfl ?_
    refine tr_val (ov_leq rfl rfl rfl) rfl rfl rfl ?_
    refine tr_val (ov_pick (vb := undef) rfl rfl rfl rfl) rfl rfl rfl ?_
    refine tr_val (ov_assign rfl rfl) rfl rfl rfl ?_
    refine tr_nil (hK3 _ _ (TrC.keep [4, 5, 1] ?_))
    show TrC _ _ _ _ [(4, _), (5, _), (1, _)] _ _
    refine tr_ret (post_ret1 (.inr rfl) rfl rfl ?_)
    exact ⟨congrArg Value.bool (by unfold closedV; rw [s14]; rfl), H.drop0⟩
  · skip
    refine tr_pass rfl rfl rfl ?_
    refine tr_pass rfl rfl rfl ?_
    refine tr_pass rfl rfl rfl ?_
    refine tr_pass rfl rfl rfl ?_
    refine tr_val (ov_pick_f (va := undef) rfl rfl rfl rfl) rfl rfl rfl ?_
    refine tr_val (ov_assign rfl rfl) rfl rfl rfl ?_
    refine tr_nil (hK3 _ _ (TrC.keep [4, 5, 1] ?_))
    show TrC _ _ _ _ [(4, _), (5, _), (1, _)] _ _
    refine tr_ret (post_ret1 (.inr rfl) rfl rfl ?_)
    exact ⟨congrArg Value.bool (by unfold closedV; rw [s14]; rfl), H.drop0⟩

/-! (*curfew/almanac.Almanac).Row -/
set_option maxRecDepth 20000 in
theorem almRow_c (p : Option Addr) (L : List Sp) (w : World) (hA : Alm w p L) (hL : L.length ≤ 4294967296) : Does Try.prog 25 #[.pointer p] w (fun v w' => ∃ A' c', v = .slice A' L.length c' ∧ SH w noBlocks [vec A' c' 40 2 encSpan L] w') := by
  refine does_enter1 Try.func25 rfl Try.ntmps25 rfl ?_
  have H := SH.start w noBlocks
  refine tr_seq (fun K1 hK1 => ?_)
  -- region 0: almanac.go:32
  refine tr_region ?_
  refine tr_val (ov_assign rfl rfl) rfl rfl rfl ?_
  refine tr_nil (hK1 _ _ (TrC.keep [2, 0] ?_))
  show TrC _ _ _ _ [(2, _), (0, _)] _ _
  refine tr_seq (fun K2 hK2 => ?_)
  -- region 1: almanac.go:32
  refine tr_region ?_
  refine tr_val (ov_move rfl rfl) rfl rfl rfl ?_
  refine tr_call (all_c p L _ (hA.later H)) rfl rfl rfl Try.call55 rfl rfl rfl ?_
  rintro _ w1 ⟨A, c, rfl, hR0, HC⟩
  have H := H.call0n HC
  refine tr_call (Clone_c A c L _ hR0 hL) rfl rfl rfl Try.call54 rfl rfl rfl ?_
  rintro _ w2 ⟨A', c', rfl, HC⟩
  have H := H.call0r HC
  refine tr_val (ov_assign rfl rfl) rfl rfl rfl ?_
  refine tr_nil (hK2 _ _ (TrC.keep [2] ?_))
  show TrC _ _ _ _ [(2, _)] _ _
  refine tr_ret (post_ret1 (.inr rfl) rfl rfl ?_)
  exact ⟨A', c', rfl, H⟩

/-! curfew/curfewref09.Free -/
set_option maxRecDepth 20000 in
theorem FreeR_c (A : Option Addr) (c : Nat) (L : List Sp) (w : World) (hR : Rd w A 2 (L.map encSpan)) (hL : L.length ≤ 4294967296) (a b : Int)  : Does Try.prog 29 #[.slice A L.length c, .int .i64 a, .int .i64 b] w (fun v w' => ∃ A' c', v = .slice A' (freeV L a b).length c' ∧ SH w noBlocks [vec A' c' 40 2 encSpan (freeV L a b)] w') := by
  obtain ⟨f0, hf0⟩ : ∃ f0, max a 0 = f0 := ⟨_, rfl⟩
  obtain ⟨hi, hhi⟩ : ∃ hi, min b 1125899906842624 = hi := ⟨_, rfl⟩
  have hfv : freeV L a b = freeR L f0 hi := by unfold freeV; rw [hf0, hhi]
  rw [hfv]
  refine does_enter3 Try.func29 rfl Try.ntmps29 rfl ?_
  have H := SH.start w noBlocks
  refine tr_seq (fun K1 hK1 => ?_)
  -- region 0: ref.go:20
  have H := H.addNil 40 2 encSpan
  refine tr_region ?_
  refine tr_val (ov_assign rfl rfl) rfl rfl rfl ?_
  refine tr_nil (hK1 _ _ (TrC.keep [6, 0, 1, 2] ?_))
  show TrC _ _ _ _ [(6, _), (0, _), (1, _), (2, _)] _ _
  refine tr_seq (fun K2 hK2 => ?_)
  -- region 1: ref.go:21
  refine tr_region ?_
  refine tr_val (ov_assign rfl rfl) rfl rfl rfl ?_
  refine tr_nil (hK2 _ _ (TrC.keep [7, 6, 0, 1, 2] ?_))
  show TrC _ _ _ _ [(7, _), (6, _), (0, _), (1, _), (2, _)] _ _
  refine tr_seq_cut_ [7, 6, 0, 2] [(1, .int .i64 f0)] (fun w' => SH w noBlocks [vec none 0 40 2 encSpan ([] : List Sp)] w') (fun K3 hK3 => ?_) (fun w1 H => ?_)
  · skip
    refine tr_seq (fun K4 hK4 => ?_)
    -- region 2: ref.go:22
    refine tr_region ?_
    refine tr_val (ov_move rfl rfl) rfl rfl rfl ?_
    refine tr_val (ov_lss rfl rfl rfl) rfl rfl rfl ?_
    refine tr_nil (hK4 _ _ (TrC.keep [11, 7, 6, 0, 1, 2] ?_))
    show TrC _ _ _ _ [(11, _), (7, _), (6, _), (0, _), (1, _), (2, _)] _ _
    first | refine tr_cond rfl (fun c11 => ?_) (fun c11 => ?_) | refine tr_condb rfl (fun c11 => ?_) (fun c11 => ?_)
    · skip
      -- region 3: ref.go:23
      refine tr_region ?_
      refine tr_val (ov_assign rfl rfl) rfl rfl rfl ?_
      exact tr_nil (hK3 _ _ (Sub.consE rfl (congrArg (Value.int .i64) (by omega)) (Sub.cons rfl (Sub.cons rfl (Sub.cons rfl (Sub.cons rfl Sub.nil))))) (H))
    · skip
      exact tr_skip (hK3 _ _ (Sub.consE rfl (congrArg (Value.int .i64) (by omega)) (Sub.cons rfl (Sub.cons rfl (Sub.cons rfl (Sub.cons rfl Sub.nil))))) (H))
  · skip
    show TrC _ _ _ _ [(1, _), (7, _), (6, _), (0, _), (2, _)] _ _
    refine tr_seq_cut_ [1, 7, 6, 0] [(2, .int .i64 hi)] (fun w' => SH w noBlocks [vec none 0 40 2 encSpan ([] : List Sp)] w') (fun K5 hK5 => ?_) (fun w2 H => ?_)
    · skip
      refine tr_seq (fun K6 hK6 => ?_)
      -- region 4: ref.go:25
      refine tr_region ?_
      refine tr_val (ov_move rfl rfl) rfl rfl rfl ?_
      refine tr_val (ov_gtr rfl rfl rfl) rfl rfl rfl ?_
      refine tr_nil (hK6 _ _ (TrC.keep [13, 1, 7, 6, 0, 2] ?_))
      show TrC _ _ _ _ [(13, _), (1, _), (7, _), (6, _), (0, _), (2, _)] _ _
      first | refine tr_cond rfl (fun c13 => ?_) (fun c13 => ?_) | refine tr_condb rfl (fun c13 => ?_) (fun c13 => ?_)
      · skip
        -- region 5: ref.go:26
        refine tr_region ?_
        refine tr_val (ov_assign rfl rfl) rfl rfl rfl ?_
        exact tr_nil (hK5 _ _ (Sub.consE rfl (congrArg (Value.int .i64) (by omega)) (Sub.cons rfl (Sub.cons rfl (Sub.cons rfl (Sub.cons rfl Sub.nil))))) (H))
      · skip
        exact tr_skip (hK5 _ _ (Sub.consE rfl (congrArg (Value.int .i64) (by omega)) (Sub.cons rfl (Sub.cons rfl (Sub.cons rfl (Sub.cons rfl Sub.nil))))) (H))
    · skip
      show TrC _ _ _ _ [(2, _), (1, _), (7, _), (6, _), (0, _)] _ _
      refine tr_seq (fun K7 hK7 => ?_)
      refine tr_seq (fun K8 hK8 => ?_)
      -- region 6: ref.go:28
      refine tr_region ?_
      refine tr_val (ov_assign rfl rfl) rfl rfl rfl ?_
      refine tr_nil (hK8 _ _ (TrC.keep [8, 2, 1, 7, 6, 0] ?_))
      show TrC _ _ _ _ [(8, _), (2, _), (1, _), (7, _), (6, _), (0, _)] _ _
      refine tr_block ?_
      refine tr_loop_ (X := Int × Int × List Sp × Option Addr × Nat) [2, 6, 0] (fun ⟨i, f, R, A1, c1⟩ => [(8, .int .i64 i), (1, .int .i64 f), (7, .slice A1 R.length c1)]) (fun ⟨i, f, R, A1, c1⟩ w' => 0 ≤ i ∧ i ≤ L.length ∧ R.length ≤ i ∧ R ++ freeR (L.drop i.toNat) f hi = freeR L f0 hi ∧ SH w noBlocks [vec A1 c1 40 2 encSpan R] w') (fun ⟨i, f, R, A1, c1⟩ => (L.length - i).toNat) (⟨0, f0, [], none, 0⟩) (Sub.cons rfl (Sub.cons rfl (Sub.cons rfl (Sub.cons rfl (Sub.cons rfl (Sub.cons rfl Sub.nil)))))) (⟨by omega, by omega, by simp, rfl, H⟩) ?_
      rintro ⟨i, f, R, A1, c1⟩ w3 ⟨hi0, hi1, hRl, hx, H⟩ K9 hK9
      show TrC _ _ _ _ [(8, _), (1, _), (7, _), (2, _), (6, _), (0, _)] _ _
      refine tr_seq (fun K10 hK10 => ?_)
      refine tr_seq (fun K11 hK11 => ?_)
      -- region 7: ref.go:28
      refine tr_region ?_
      refine tr_val (ov_move rfl rfl) rfl rfl rfl ?_
      refine tr_val (ov_move rfl rfl) rfl rfl rfl ?_
      refine tr_val (ov_len rfl rfl Try.underlying33 rfl) rfl rfl rfl ?_
      refine tr_val (ov_lss rfl rfl rfl) rfl rfl rfl ?_
      refine tr_nil (hK11 _ _ (TrC.keep [17, 8, 1, 7, 2, 6, 0] ?_))
      show TrC _ _ _ _ [(17, _), (8, _), (1, _), (7, _), (2, _), (6, _), (0, _)] _ _
      first | refine tr_cond rfl (fun c17 => ?_) (fun c17 => ?_) | refine tr_condb rfl (fun c17 => ?_) (fun c17 => ?_)
      · skip
        refine tr_skip (hK10 _ _ (TrC.keep [17, 8, 1, 7, 2, 6, 0] ?_))
        show TrC _ _ _ _ [(17, _), (8, _), (1, _), (7, _), (2, _), (6, _), (0, _)] _ _
        refine tr_seq (fun K12 hK12 => ?_)
        refine tr_block ?_
        refine tr_seq (fun K13 hK13 => ?_)
        refine tr_seq (fun K14 hK14 => ?_)
        -- region 9: ref.go:29
        refine tr_region ?_
        refine tr_val (ov_move rfl rfl) rfl rfl rfl ?_
        refine tr_val (ov_move rfl rfl) rfl rfl rfl ?_
        refine tr_val (ov_indexAddrR (H.rd0 hR) rfl Try.underlying33 (Try.sizeOf40 _) rfl rfl (by omega) (by omega)) rfl rfl rfl ?_
        refine tr_val (ov_fieldAddr rfl Try.underlying40 rfl (Try.sizeOf2 _) (by decide) rfl) rfl rfl rfl ?_
        refine tr_val (ld_Span_0 (H.rd0 hR) rfl (Try.isAgg2 _) rfl (by omega) (by omega)) rfl rfl rfl ?_
        refine tr_val (ov_move rfl rfl) rfl rfl rfl ?_
        refine tr_val (ov_gtr rfl rfl rfl) rfl rfl rfl ?_
        refine tr_val (ov_move rfl rfl) rfl rfl rfl ?_
        first | refine tr_split (t := 27) rfl (fun s27 => ?_) (fun s27 => ?_) | refine tr_splitb (t := 27) rfl (fun s27 => ?_) (fun s27 => ?_)
        · skip
          refine tr_val (ov_move rfl rfl) rfl rfl rfl ?_
          refine tr_val (ov_move rfl rfl) rfl rfl rfl ?_
          refine tr_val (ov_lss rfl rfl rfl) rfl rfl rfl ?_
          refine tr_val (ov_pick (vb := undef) rfl rfl rfl rfl) rfl rfl rfl ?_
          refine tr_nil (hK14 _ _ (TrC.keep [31, 17, 8, 1, 7, 2, 6, 0] ?_))
          show TrC _ _ _ _ [(31, _), (17, _), (8, _), (1, _), (7, _), (2, _), (6, _), (0, _)] _ _
          first | refine tr_cond rfl (fun c31 => ?_) (fun c31 => ?_) | refine tr_condb rfl (fun c31 => ?_) (fun c31 => ?_)
          · skip
            refine tr_seq (fun K15 hK15 => ?_)
            -- region 10: ref.go:30
            refine tr_region ?_
            refine tr_val (ov_move rfl rfl) rfl rfl rfl ?_
            refine tr_val (ov_move rfl rfl) rfl rfl rfl ?_
            refine tr_val (ov_indexAddrR (H.rd0 hR) rfl Try.underlying33 (Try.sizeOf40 _) rfl rfl (by omega) (by omega)) rfl rfl rfl ?_
            refine tr_val (ov_fieldAddr rfl Try.underlying40 rfl (Try.sizeOf2 _) (by decide) rfl) rfl rfl rfl ?_
            refine tr_val (ld_Span_0 (H.rd0 hR) rfl (Try.isAgg2 _) rfl (by omega) (by omega)) rfl rfl rfl ?_
            refine tr_val (ov_assign rfl rfl) rfl rfl rfl ?_
            refine tr_nil (hK15 _ _ (TrC.keep [9, 31, 17, 8, 1, 7, 2, 6, 0] ?_))
            show TrC _ _ _ _ [(9, _), (31, _), (17, _), (8, _), (1, _), (7, _), (2, _), (6, _), (0, _)] _ _
            refine tr_seq_cut_ [31, 17, 8, 1, 7, 2, 6, 0] [(9, .int .i64 (min (gt L i).1 hi))] (fun w' => SH w noBlocks [vec A1 c1 40 2 encSpan R] w') (fun K16 hK16 => ?_) (fun w4 H => ?_)
            · skip
              refine tr_seq (fun K17 hK17 => ?_)
              -- region 11: ref.go:31
              refine tr_region ?_
              refine tr_val (ov_move rfl rfl) rfl rfl rfl ?_
              refine tr_val (ov_move rfl rfl) rfl rfl rfl ?_
              refine tr_val (ov_gtr rfl rfl rfl) rfl rfl rfl ?_
              refine tr_nil (hK17 _ _ (TrC.keep [39, 9, 31, 17, 8, 1, 7, 2, 6, 0] ?_))
              show TrC _ _ _ _ [(39, _), (9, _), (31, _), (17, _), (8, _), (1, _), (7, _), (2, _), (6, _), (0, _)] _ _
              first | refine tr_cond rfl (fun c39 => ?_) (fun c39 => ?_) | refine tr_condb rfl (fun c39 => ?_) (fun c39 => ?_)
              · skip
                -- region 12: ref.go:32
                refine tr_region ?_
                refine tr_val (ov_move rfl rfl) rfl rfl rfl ?_
                refine tr_val (ov_assign rfl rfl) rfl rfl rfl ?_
                exact tr_nil (hK16 _ _ (Sub.consE rfl (congrArg (Value.int .i64) (by omega)) (Sub.cons rfl (Sub.cons rfl (Sub.cons rfl (Sub.cons rfl (Sub.cons rfl (Sub.cons rfl (Sub.cons rfl (Sub.cons rfl Sub.nil))))))))) (H))
              · skip
                exact tr_skip (hK16 _ _ (Sub.consE rfl (congrArg (Value.int .i64) (by omega)) (Sub.cons rfl (Sub.cons rfl (Sub.cons rfl (Sub.cons rfl (Sub.cons rfl (Sub.cons rfl (Sub.cons rfl (Sub.cons rfl Sub.nil))))))))) (H))
            · skip
              show TrC _ _ _ _ [(9, _), (31, _), (17, _), (8, _), (1, _), (7, _), (2, _), (6, _), (0, _)] _ _
              -- region 13: ref.go:34
              refine tr_region ?_
              refine tr_val (ov_move rfl rfl) rfl rfl rfl ?_
              refine tr_val (ov_move rfl rfl) rfl rfl rfl ?_
              refine tr_val (ov_move rfl rfl) rfl rfl rfl ?_
              refine tr_val (ov_build rfl (fun ρ k => bs2 k rfl rfl) (bld40_0_1 _ _ _)) rfl rfl rfl ?_
              refine tr_buildSlice H rfl Try.underlying33 info40 rfl (fun ρ k => bs1 k rfl) (by decide) (by decide) (fill_Span_1 _ _) rfl rfl rfl ?_
              intro b1 w5 hb1 H
              refine tr_append H.get1 (rd_blk [(f, min (gt L i).1 hi)] H.get0 rfl lenSpan) rfl rfl rfl Try.underlying33 info40 rfl rfl (show Try.t40.bytes = 16 from rfl) rfl (by decide) lenSpan oneSpan (by simp; omega) (by simp [maxLen]; omega) rfl rfl rfl ?_
              intro A' c' w6 U; have H := H.upd1 U; clear U
              refine tr_val (ov_assign rfl rfl) rfl rfl rfl ?_
              refine tr_nil (hK13 _ _ (TrC.keep [7, 9, 31, 17, 8, 1, 2, 6, 0] ?_))
              show TrC _ _ _ _ [(7, _), (9, _), (31, _), (17, _), (8, _), (1, _), (2, _), (6, _), (0, _)] _ _
              refine tr_seq (fun K18 hK18 => ?_)
              -- region 14: ref.go:36
              refine tr_region ?_
              refine tr_val (ov_move rfl rfl) rfl rfl rfl ?_
              refine tr_val (ov_move rfl rfl) rfl rfl rfl ?_
              refine tr_val (ov_indexAddrR (H.rd0 hR) rfl Try.underlying33 (Try.sizeOf40 _) rfl rfl (by omega) (by omega)) rfl rfl rfl ?_
              refine tr_val (ov_fieldAddr rfl Try.underlying40 rfl (Try.sizeOf2 _) (by decide) rfl) rfl rfl rfl ?_
              refine tr_val (ld_Span_1 (H.rd0 hR) rfl (Try.isAgg2 _) rfl (by omega) (by omega)) rfl rfl rfl ?_
              refine tr_val (ov_move rfl rfl) rfl rfl rfl ?_
              refine tr_val (ov_gtr rfl rfl rfl) rfl rfl rfl ?_
              refine tr_nil (hK18 _ _ (TrC.keep [53, 7, 9, 31, 17, 8, 1, 2, 6, 0] ?_))
              show TrC _ _ _ _ [(53, _), (7, _), (9, _), (31, _), (17, _), (8, _), (1, _), (2, _), (6, _), (0, _)] _ _
              first | refine tr_cond rfl (fun c53 => ?_) (fun c53 => ?_) | refine tr_condb rfl (fun c53 => ?_) (fun c53 => ?_)
              · skip
                -- region 15: ref.go:37
                refine tr_region ?_
                refine tr_val (ov_move rfl rfl) rfl rfl rfl ?_
                refine tr_val (ov_move rfl rfl) rfl rfl rfl ?_
                refine tr_val (ov_indexAddrR (H.rd0 hR) rfl Try.underlying33 (Try.sizeOf40 _) rfl rfl (by omega) (by omega)) rfl rfl rfl ?_
                refine tr_val (ov_fieldAddr rfl Try.underlying40 rfl (Try.sizeOf2 _) (by decide) rfl) rfl rfl rfl ?_
                refine tr_val (ld_Span_1 (H.rd0 hR) rfl (Try.isAgg2 _) rfl (by omega) (by omega)) rfl rfl rfl ?_
                refine tr_val (ov_assign rfl rfl) rfl rfl rfl ?_
                refine tr_nil (hK12 _ _ (TrC.keep [1, 53, 7, 9, 31, 17, 8, 2, 6, 0] ?_))
                show TrC _ _ _ _ [(1, _), (53, _), (7, _), (9, _), (31, _), (17, _), (8, _), (2, _), (6, _), (0, _)] _ _
                -- region 8: ref.go:28
                refine tr_region ?_
                refine tr_val (ov_move rfl rfl) rfl rfl rfl ?_
                refine tr_val (ov_add rfl rfl rfl (w64 (by omega))) rfl rfl rfl ?_
                refine tr_val (ov_assign rfl rfl) rfl rfl rfl ?_
                skip
                exact tr_nil (hK9 (⟨i + 1, (gt L i).2, R ++ [(f, min (gt L i).1 hi)], A', c'⟩) _ _ (⟨by omega, by omega, by (try simp); omega, by rw [← hx, free_step hi0 (by omega), if_pos (by omega), if_pos (by omega)]; simp, H.drop0⟩) (by first | omega | (dsimp only; omega)) (Sub.cons rfl (Sub.cons rfl (Sub.cons rfl (Sub.cons rfl (Sub.cons rfl (Sub.cons rfl Sub.nil)))))))
              · skip
                refine tr_skip (hK12 _ _ (TrC.keep [53, 7, 9, 31, 17, 8, 1, 2, 6, 0] ?_))
                show TrC _ _ _ _ [(53, _), (7, _), (9, _), (31, _), (17, _), (8, _), (1, _), (2, _), (6, _), (0, _)] _ _
                -- region 8: ref.go:28
                refine tr_region ?_
                refine tr_val (ov_move rfl rfl) rfl rfl rfl ?_
                refine tr_val (ov_add rfl rfl rfl (w64 (by omega))) rfl rfl rfl ?_
                refine tr_val (ov_assign rfl rfl) rfl rfl rfl ?_
                skip
                exact tr_nil (hK9 (⟨i + 1, f, R ++ [(f, min (gt L i).1 hi)], A', c'⟩) _ _ (⟨by omega, by omega, by (try simp); omega, by rw [← hx, free_step hi0 (by omega), if_pos (by omega), if_neg (by omega)]; simp, H.drop0⟩) (by first | omega | (dsimp only; omega)) (Sub.cons rfl (Sub.cons rfl (Sub.cons rfl (Sub.cons rfl (Sub.cons rfl (Sub.cons rfl Sub.nil)))))))
          · skip
            refine tr_skip (hK13 _ _ (TrC.keep [31, 17, 8, 1, 7, 2, 6, 0] ?_))
            show TrC _ _ _ _ [(31, _), (17, _), (8, _), (1, _), (7, _), (2, _), (6, _), (0, _)] _ _
            refine tr_seq (fun K19 hK19 => ?_)
            -- region 14: ref.go:36
            refine tr_region ?_
            refine tr_val (ov_move rfl rfl) rfl rfl rfl ?_
            refine tr_val (ov_move rfl rfl) rfl rfl rfl ?_
            refine tr_val (ov_indexAddrR (H.rd0 hR) rfl Try.underlying33 (Try.sizeOf40 _) rfl rfl (by omega) (by omega)) rfl rfl rfl ?_
            refine tr_val (ov_fieldAddr rfl Try.underlying40 rfl (Try.sizeOf2 _) (by decide) rfl) rfl rfl rfl ?_
            refine tr_val (ld_Span_1 (H.rd0 hR) rfl (Try.isAgg2 _) rfl (by omega) (by omega)) rfl rfl rfl ?_
            refine tr_val (ov_move rfl rfl) rfl rfl rfl ?_
            refine tr_val (ov_gtr rfl rfl rfl) rfl rfl rfl ?_
            refine tr_nil (hK19 _ _ (TrC.keep [53, 31, 17, 8, 1, 7, 2, 6, 0] ?_))
            show TrC _ _ _ _ [(53, _), (31, _), (17, _), (8, _), (1, _), (7, _), (2, _), (6, _), (0, _)] _ _
            first | refine tr_cond rfl (fun c53 => ?_) (fun c53 => ?_) | refine tr_condb rfl (fun c53 => ?_) (fun c53 => ?_)
            · skip
              -- region 15: ref.go:37
              refine tr_region ?_
              refine tr_val (ov_move rfl rfl) rfl rfl rfl ?_
              refine tr_val (ov_move rfl rfl) rfl rfl rfl ?_
              refine tr_val (ov_indexAddrR (H.rd0 hR) rfl Try.underlying33 (Try.sizeOf40 _) rfl rfl (by omega) (by omega)) rfl rfl rfl ?_
              refine tr_val (ov_fieldAddr rfl Try.underlying40 rfl (Try.sizeOf2 _) (by decide) rfl) rfl rfl rfl ?_
              refine tr_val (ld_Span_1 (H.rd0 hR) rfl (Try.isAgg2 _) rfl (by omega) (by omega)) rfl rfl rfl ?_
              refine tr_val (ov_assign rfl rfl) rfl rfl rfl ?_
              refine tr_nil (hK12 _ _ (TrC.keep [1, 53, 31, 17, 8, 7, 2, 6, 0] ?_))
              show TrC _ _ _ _ [(1, _), (53, _), (31, _), (17, _), (8, _), (7, _), (2, _), (6, _), (0, _)] _ _
              -- region 8: ref.go:28
              refine tr_region ?_
              refine tr_val (ov_move rfl rfl) rfl rfl rfl ?_
              refine tr_val (ov_add rfl rfl rfl (w64 (by omega))) rfl rfl rfl ?_
              refine tr_val (ov_assign rfl rfl) rfl rfl rfl ?_
              skip
              exact tr_nil (hK9 (⟨i + 1, (gt L i).2, R, A1, c1⟩) _ _ (⟨by omega, by omega, by (try simp); omega, by rw [← hx, free_step hi0 (by omega), if_neg (by omega), if_pos (by omega)]; simp, H⟩) (by first | omega | (dsimp only; omega)) (Sub.cons rfl (Sub.cons rfl (Sub.cons rfl (Sub.cons rfl (Sub.cons rfl (Sub.cons rfl Sub.nil)))))))
            · skip
              refine tr_skip (hK12 _ _ (TrC.keep [53, 31, 17, 8, 1, 7, 2, 6, 0] ?_))
              show TrC _ _ _ _ [(53, _), (31, _), (17, _), (8, _), (1, _), (7, _), (2, _), (6, _), (0, _)] _ _
              -- region 8: ref.go:28
              refine tr_region ?_
              refine tr_val (ov_move rfl rfl) rfl rfl rfl ?_
              refine tr_val (ov_add rfl rfl rfl (w64 (by omega))) rfl rfl rfl ?_
              refine tr_val (ov_assign rfl rfl) rfl rfl rfl ?_
              skip
              exact tr_nil (hK9 (⟨i + 1, f, R, A1, c1⟩) _ _ (⟨by omega, by omega, by (try simp); omega, by rw [← hx, free_step hi0 (by omega), if_neg (by omega), if_neg (by omega)]; simp, H⟩) (by first | omega | (dsimp only; omega)) (Sub.cons rfl (Sub.cons rfl (Sub.cons rfl (Sub.cons rfl (Sub.cons rfl (Sub.cons rfl Sub.nil)))))))
        · skip
          refine tr_pass rfl rfl rfl ?_
          refine tr_pass rfl rfl rfl ?_
          refine tr_pass rfl rfl rfl ?_
          refine tr_val (ov_pick_f (va := undef) rfl rfl rfl rfl) rfl rfl rfl ?_
          refine tr_nil (hK14 _ _ (TrC.keep [31, 17, 8, 1, 7, 2, 6, 0] ?_))
          show TrC _ _ _ _ [(31, _), (17, _), (8, _), (1, _), (7, _), (2, _), (6, _), (0, _)] _ _
          refine tr_cond_f rfl rfl ?_
          refine tr_skip (hK13 _ _ (TrC.keep [31, 17, 8, 1, 7, 2, 6, 0] ?_))
          show TrC _ _ _ _ [(31, _), (17, _), (8, _), (1, _), (7, _), (2, _), (6, _), (0, _)] _ _
          refine tr_seq (fun K20 hK20 => ?_)
          -- region 14: ref.go:36
          refine tr_region ?_
          refine tr_val (ov_move rfl rfl) rfl rfl rfl ?_
          refine tr_val (ov_move rfl rfl) rfl rfl rfl ?_
          refine tr_val (ov_indexAddrR (H.rd0 hR) rfl Try.underlying33 (Try.sizeOf40 _) rfl rfl (by omega) (by omega)) rfl rfl rfl ?_
          refine tr_val (ov_fieldAddr rfl Try.underlying40 rfl (Try.sizeOf2 _) (by decide) rfl) rfl rfl rfl ?_
          refine tr_val (ld_Span_1 (H.rd0 hR) rfl (Try.isAgg2 _) rfl (by omega) (by omega)) rfl rfl rfl ?_
          refine tr_val (ov_move rfl rfl) rfl rfl rfl ?_
          refine tr_val (ov_gtr rfl rfl rfl) rfl rfl rfl ?_
          refine tr_nil (hK20 _ _ (TrC.keep [53, 31, 17, 8, 1, 7, 2, 6, 0] ?_))
          show TrC _ _ _ _ [(53, _), (31, _), (17, _), (8, _), (1, _), (7, _), (2, _), (6, _), (0, _)] _ _
          first | refine tr_cond rfl (fun c53 => ?_) (fun c53 => ?_) | refine tr_condb rfl (fun c53 => ?_) (fun c53 => ?_)
          · skip
            -- region 15: ref.go:37
            refine tr_region ?_
            refine tr_val (ov_move rfl rfl) rfl rfl rfl ?_
            refine tr_val (ov_move rfl rfl) rfl rfl rfl ?_
            refine tr_val (ov_indexAddrR (H.rd0 hR) rfl Try.underlying33 (Try.sizeOf40 _) rfl rfl (by omega) (by omega)) rfl rfl rfl ?_
            refine tr_val (ov_fieldAddr rfl Try.underlying40 rfl (Try.sizeOf2 _) (by decide) rfl) rfl rfl rfl ?_
            refine tr_val (ld_Span_1 (H.rd0 hR) rfl (Try.isAgg2 _) rfl (by omega) (by omega)) rfl rfl rfl ?_
            refine tr_val (ov_assign rfl rfl) rfl rfl rfl ?_
            refine tr_nil (hK12 _ _ (TrC.keep [1, 53, 31, 17, 8, 7, 2, 6, 0] ?_))
            show TrC _ _ _ _ [(1, _), (53, _), (31, _), (17, _), (8, _), (7, _), (2, _), (6, _), (0, _)] _ _
            -- region 8: ref.go:28
            refine tr_region ?_
            refine tr_val (ov_move rfl rfl) rfl rfl rfl ?_
            refine tr_val (ov_add rfl rfl rfl (w64 (by omega))) rfl rfl rfl ?_
            refine tr_val (ov_assign rfl rfl) rfl rfl rfl ?_
            skip
            exact tr_nil (hK9 (⟨i + 1, (gt L i).2, R, A1, c1⟩) _ _ (⟨by omega, by omega, by (try simp); omega, by rw [← hx, free_step hi0 (by omega), if_neg (by omega), if_pos (by omega)]; simp, H⟩) (by first | omega | (dsimp only; omega)) (Sub.cons rfl (Sub.cons rfl (Sub.cons rfl (Sub.cons rfl (Sub.cons rfl (Sub.cons rfl Sub.nil)))))))
          · skip
            refine tr_skip (hK12 _ _ (TrC.keep [53, 31, 17, 8, 1, 7, 2, 6, 0] ?_))
            show TrC _ _ _ _ [(53, _), (31, _), (17, _), (8, _), (1, _), (7, _), (2, _), (6, _), (0, _)] _ _
            -- region 8: ref.go:28
            refine tr_region ?_
            refine tr_val (ov_move rfl rfl) rfl rfl rfl ?_
            refine tr_val (ov_add rfl rfl rfl (w64 (by omega))) rfl rfl rfl ?_
            refine tr_val (ov_assign rfl rfl) rfl rfl rfl ?_
            skip
            exact tr_nil (hK9 (⟨i + 1, f, R, A1, c1⟩) _ _ (⟨by omega, by omega, by (try simp); omega, by rw [← hx, free_step hi0 (by omega), if_neg (by omega), if_neg (by omega)]; simp, H⟩) (by first | omega | (dsimp only; omega)) (Sub.cons rfl (Sub.cons rfl (Sub.cons rfl (Sub.cons rfl (Sub.cons rfl (Sub.cons rfl Sub.nil)))))))
      · skip
        refine tr_exit (hK7 _ _ (TrC.keep [17, 8, 1, 7, 2, 6, 0] ?_))
        show TrC _ _ _ _ [(17, _), (8, _), (1, _), (7, _), (2, _), (6, _), (0, _)] _ _
        refine tr_seq (fun K21 hK21 => ?_)
        refine tr_seq (fun K22 hK22 => ?_)
        -- region 16: ref.go:40
        refine tr_region ?_
        refine tr_val (ov_move rfl rfl) rfl rfl rfl ?_
        refine tr_val (ov_move rfl rfl) rfl rfl rfl ?_
        refine tr_val (ov_lss rfl rfl rfl) rfl rfl rfl ?_
        refine tr_nil (hK22 _ _ (TrC.keep [61, 17, 8, 1, 7, 2, 6, 0] ?_))
        show TrC _ _ _ _ [(61, _), (17, _), (8, _), (1, _), (7, _), (2, _), (6, _), (0, _)] _ _
        first | refine tr_cond rfl (fun c61 => ?_) (fun c61 => ?_) | refine tr_condb rfl (fun c61 => ?_) (fun c61 => ?_)
        · skip
          -- region 17: ref.go:41
          refine tr_region ?_
          refine tr_val (ov_move rfl rfl) rfl rfl rfl ?_
          refine tr_val (ov_move rfl rfl) rfl rfl rfl ?_
          refine tr_val (ov_move rfl rfl) rfl rfl rfl ?_
          refine tr_val (ov_build rfl (fun ρ k => bs2 k rfl rfl) (bld40_0_1 _ _ _)) rfl rfl rfl ?_
          refine tr_buildSlice H rfl Try.underlying33 info40 rfl (fun ρ k => bs1 k rfl) (by decide) (by decide) (fill_Span_1 _ _) rfl rfl rfl ?_
          intro b2 w7 hb2 H
          refine tr_append H.get1 (rd_blk [(f, hi)] H.get0 rfl lenSpan) rfl rfl rfl Try.underlying33 info40 rfl rfl (show Try.t40.bytes = 16 from rfl) rfl (by decide) lenSpan oneSpan (by simp; omega) (by simp [maxLen]; omega) rfl rfl rfl ?_
          intro A' c' w8 U; have H := H.upd1 U; clear U
          refine tr_val (ov_assign rfl rfl) rfl rfl rfl ?_
          refine tr_nil (hK21 _ _ (TrC.keep [7, 61, 17, 8, 1, 2, 6, 0] ?_))
          show TrC _ _ _ _ [(7, _), (61, _), (17, _), (8, _), (1, _), (2, _), (6, _), (0, _)] _ _
          refine tr_seq (fun K23 hK23 => ?_)
          -- region 18: ref.go:43
          refine tr_region ?_
          refine tr_val (ov_move rfl rfl) rfl rfl rfl ?_
          refine tr_val (ov_assign rfl rfl) rfl rfl rfl ?_
          refine tr_nil (hK23 _ _ (TrC.keep [6, 7, 61, 17, 8, 1, 2, 0] ?_))
          show TrC _ _ _ _ [(6, _), (7, _), (61, _), (17, _), (8, _), (1, _), (2, _), (0, _)] _ _
          refine tr_ret (post_ret1 (.inr rfl) rfl rfl ?_)
          rw [free_end (by omega), if_pos c61] at hx
          rw [← hx]
          exact ⟨A', c', rfl, H.drop0⟩
        · skip
          refine tr_skip (hK21 _ _ (TrC.keep [61, 17, 8, 1, 7, 2, 6, 0] ?_))
          show TrC _ _ _ _ [(61, _), (17, _), (8, _), (1, _), (7, _), (2, _), (6, _), (0, _)] _ _
          refine tr_seq (fun K24 hK24 => ?_)
          -- region 18: ref.go:43
          refine tr_region ?_
          refine tr_val (ov_move rfl rfl) rfl rfl rfl ?_
          refine tr_val (ov_assign rfl rfl) rfl rfl rfl ?_
          refine tr_nil (hK24 _ _ (TrC.keep [6, 61, 17, 8, 1, 7, 2, 0] ?_))
          show TrC _ _ _ _ [(6, _), (61, _), (17, _), (8, _), (1, _), (7, _), (2, _), (0, _)] _ _
          refine tr_ret (post_ret1 (.inr rfl) rfl rfl ?_)
          rw [free_end (by omega), if_neg c61, List.append_nil] at hx
          rw [← hx]
          exact ⟨A1, c1, rfl, H⟩

/-! (*curfew/almanac.Almanac).Lost -/
set_option maxRecDepth 20000 in
theorem Lost_c (p : Option Addr) (L : List Sp) (w : World) (hA : Alm w p L) (a b : Int) (hL : L.length ≤ 4294967296) (gf : FuncId) (caps : List Value) (φ : Sp → Int) (hcf : ∀ ys w, (callFunc gf ys).run Try.prog w = .ok (.enter gf ys) w) (hf : ∀ s w1, 0 ≤ s.1 ∧ s.1 < s.2 ∧ s.2 ≤ 1125899906842624 → SH w noBlocks [] w1 → Does Try.prog gf ([Value.int .i64 s.1, Value.int .i64 s.2] ++ caps).toArray w1 (fun v w2 => v = .int .i64 (φ s) ∧ SH w1 noBlocks [] w2)) : Does Try.prog 27 #[.pointer p, .int .i64 a, .int .i64 b, .func (.func gf) #[] caps.toArray] w (fun v w' => v = .int .i64 (lostL φ 0 (cutV L a b)) ∧ SH w noBlocks [] w') := by
  have hc32 := (cutV_small (L := L) (a := a) (b := b)).1
  refine does_enter4 Try.func27 rfl Try.ntmps27 rfl ?_
  have H := SH.start w noBlocks
  refine tr_seq (fun K1 hK1 => ?_)
  -- region 0: almanac.go:51
  refine tr_region ?_
  refine tr_val (ov_assign rfl rfl) rfl rfl rfl ?_
  refine tr_nil (hK1 _ _ (TrC.keep [8, 0, 1, 2, 3] ?_))
  show TrC _ _ _ _ [(8, _), (0, _), (1, _), (2, _), (3, _)] _ _
  refine tr_seq (fun K2 hK2 => ?_)
  refine tr_seq (fun K3 hK3 => ?_)
  -- region 1: almanac.go:52
  refine tr_region ?_
  refine tr_val (ov_move rfl rfl) rfl rfl rfl ?_
  first | refine tr_val (ov_feql_nil rfl Try.underlying28 rfl rfl) rfl rfl rfl ?_ | refine tr_val (ov_feqln_nil rfl Try.underlying28 rfl rfl) rfl rfl rfl ?_
  refine tr_nil (hK3 _ _ (TrC.keep [12, 8, 0, 1, 2, 3] ?_))
  show TrC _ _ _ _ [(12, _), (8, _), (0, _), (1, _), (2, _), (3, _)] _ _
  refine tr_cond_f rfl (rfl) ?_
  refine tr_skip (hK2 _ _ (TrC.keep [12, 8, 0, 1, 2, 3] ?_))
  show TrC _ _ _ _ [(12, _), (8, _), (0, _), (1, _), (2, _), (3, _)] _ _
  refine tr_seq (fun K4 hK4 => ?_)
  refine tr_seq (fun K5 hK5 => ?_)
  -- region 3: almanac.go:55
  refine tr_region ?_
  refine tr_val (ov_move rfl rfl) rfl rfl rfl ?_
  refine tr_call (all_c p L _ (hA.later H)) rfl rfl rfl Try.call55 rfl rfl rfl ?_
  rintro _ w1 ⟨A, c, rfl, hR0, HC⟩
  have H := H.call0n HC
  refine tr_val (ov_move rfl rfl) rfl rfl rfl ?_
  refine tr_val (ov_move rfl rfl) rfl rfl rfl ?_
  refine tr_call (Cut_c A c L _ hR0 hL a b) rfl rfl rfl Try.call59 rfl rfl rfl ?_
  rintro _ w2 ⟨A', c', rfl, HC⟩
  have H := H.call0r HC
  refine tr_val (ov_len rfl rfl Try.underlying33 rfl) rfl rfl rfl ?_
  refine tr_val (ov_move rfl rfl) rfl rfl rfl ?_
  refine tr_nil (hK5 _ _ (TrC.keep [19, 18, 17, 12, 8, 3] ?_))
  show TrC _ _ _ _ [(19, _), (18, _), (17, _), (12, _), (8, _), (3, _)] _ _
  refine tr_block ?_
  refine tr_loop_ (X := Int × Int) [18, 17, 12, 3] (fun ⟨i, t⟩ => [(19, .int .i64 i), (8, .int .i64 t)]) (fun ⟨i, t⟩ w' => 0 ≤ i ∧ i ≤ (cutV L a b).length ∧ lostL φ t ((cutV L a b).drop i.toNat) = lostL φ 0 (cutV L a b) ∧ SH w noBlocks [vec A' c' 40 2 encSpan (cutV L a b)] w') (fun ⟨i, t⟩ => ((cutV L a b).length - i).toNat) (⟨0, 0⟩) (Sub.cons rfl (Sub.cons rfl (Sub.cons rfl (Sub.cons rfl (Sub.cons rfl (Sub.cons rfl Sub.nil)))))) (⟨by omega, by omega, rfl, H⟩) ?_
  rintro ⟨i, t⟩ w3 ⟨hi0, hi1, hx, H⟩ K6 hK6
  show TrC _ _ _ _ [(19, _), (8, _), (18, _), (17, _), (12, _), (3, _)] _ _
  refine tr_seq (fun K7 hK7 => ?_)
  -- region 4: almanac.go:55
  refine tr_region ?_
  refine tr_val (ov_lss rfl rfl rfl) rfl rfl rfl ?_
  refine tr_nil (hK7 _ _ (TrC.keep [20, 19, 8, 18, 17, 12, 3] ?_))
  show TrC _ _ _ _ [(20, _), (19, _), (8, _), (18, _), (17, _), (12, _), (3, _)] _ _
  refine tr_seq (fun K8 hK8 => ?_)
  first | refine tr_cond rfl (fun c20 => ?_) (fun c20 => ?_) | refine tr_condb rfl (fun c20 => ?_) (fun c20 => ?_)
  · skip
    refine tr_skip (hK8 _ _ (TrC.keep [20, 19, 8, 18, 17, 12, 3] ?_))
    show TrC _ _ _ _ [(20, _), (19, _), (8, _), (18, _), (17, _), (12, _), (3, _)] _ _
    refine tr_seq (fun K9 hK9 => ?_)
    refine tr_block ?_
    refine tr_seq (fun K10 hK10 => ?_)
    -- region 5: almanac.go:55
    have hs := cutV_small.2 _ (gt_mem (L := (cutV L a b)) hi0 (by omega))
    refine tr_region ?_
    refine tr_val (ov_indexAddrR (vec_rd H.get0 lenSpan (by decide)) rfl Try.underlying33 (Try.sizeOf40 _) rfl rfl (by omega) (by omega)) rfl rfl rfl ?_
    refine tr_val (ld_Span (vec_rd H.get0 lenSpan (by decide)) rfl (Try.isAgg40 _) (Try.sizeOf40 _) rfl (by omega) (by omega)) rfl rfl rfl ?_
    refine tr_alloc H rfl (Try.zeroValue40 _) rfl rfl rfl rfl ?_
    intro b1 w4 hb1 H
    first | (refine tr_storeW H.get0 rfl (Try.sizeOf40 _) rfl rfl rfl rfl rfl rfl rfl rfl ?_; intro w5 U; have H := H.upd0 U; clear U) | (refine tr_storeW H.get1 rfl (Try.sizeOf40 _) rfl rfl rfl rfl rfl rfl rfl rfl ?_; intro w5 U; have H := H.upd1 U; clear U) | (refine tr_storeW H.get2 rfl (Try.sizeOf40 _) rfl rfl rfl rfl rfl rfl rfl rfl ?_; intro w5 U; have H := H.upd2 U; clear U) | (refine tr_storeW H.get3 rfl (Try.sizeOf40 _) rfl rfl rfl rfl rfl rfl rfl rfl ?_; intro w5 U; have H := H.upd3 U; clear U) | (refine tr_storeW H.get4 rfl (Try.sizeOf40 _) rfl rfl rfl rfl rfl rfl rfl rfl ?_; intro w5 U; have H := H.upd4 U; clear U) | (refine tr_storeW H.get5 rfl (Try.sizeOf40 _) rfl rfl rfl rfl rfl rfl rfl rfl ?_; intro w5 U; have H := H.upd5 U; clear U)
    refine tr_nil (hK10 _ _ (TrC.keep [10, 20, 19, 8, 18, 17, 12, 3] ?_))
    show TrC _ _ _ _ [(10, _), (20, _), (19, _), (8, _), (18, _), (17, _), (12, _), (3, _)] _ _
    -- region 6: almanac.go:56
    refine tr_region ?_
    refine tr_val (ov_move rfl rfl) rfl rfl rfl ?_
    refine tr_val (ov_move rfl rfl) rfl rfl rfl ?_
    refine tr_val (ov_fieldAddr rfl Try.underlying40 rfl (Try.sizeOf2 _) (by decide) rfl) rfl rfl rfl ?_
    first | refine tr_val (ov_load_blk H.get0 rfl (Try.isAgg2 _) rfl rfl rfl) rfl rfl rfl ?_ | refine tr_val (ov_load_blk H.get1 rfl (Try.isAgg2 _) rfl rfl rfl) rfl rfl rfl ?_ | refine tr_val (ov_load_blk H.get2 rfl (Try.isAgg2 _) rfl rfl rfl) rfl rfl rfl ?_ | refine tr_val (ov_load_blk H.get3 rfl (Try.isAgg2 _) rfl rfl rfl) rfl rfl rfl ?_ | refine tr_val (ov_load_blk H.get4 rfl (Try.isAgg2 _) rfl rfl rfl) rfl rfl rfl ?_ | refine tr_val (ov_load_blk H.get5 rfl (Try.isAgg2 _) rfl rfl rfl) rfl rfl rfl ?_
    refine tr_val (ov_fieldAddr rfl Try.underlying40 rfl (Try.sizeOf2 _) (by decide) rfl) rfl rfl rfl ?_
    first | refine tr_val (ov_load_blk H.get0 rfl (Try.isAgg2 _) rfl rfl rfl) rfl rfl rfl ?_ | refine tr_val (ov_load_blk H.get1 rfl (Try.isAgg2 _) rfl rfl rfl) rfl rfl rfl ?_ | refine tr_val (ov_load_blk H.get2 rfl (Try.isAgg2 _) rfl rfl rfl) rfl rfl rfl ?_ | refine tr_val (ov_load_blk H.get3 rfl (Try.isAgg2 _) rfl rfl rfl) rfl rfl rfl ?_ | refine tr_val (ov_load_blk H.get4 rfl (Try.isAgg2 _) rfl rfl rfl) rfl rfl rfl ?_ | refine tr_val (ov_load_blk H.get5 rfl (Try.isAgg2 _) rfl rfl rfl) rfl rfl rfl ?_
    refine tr_callc (hf (gt (cutV L a b) i) _ hs (H.drop0.drop0)) rfl rfl rfl hcf rfl rfl rfl ?_
    rintro _ w6 ⟨rfl, HC⟩
    have H := H.call0n HC
    refine tr_val (ov_add rfl rfl rfl rfl) rfl rfl rfl ?_
    refine tr_val (ov_assign rfl rfl) rfl rfl rfl ?_
    refine tr_nil (hK9 _ _ (TrC.keep [8, 10, 20, 19, 18, 17, 12, 3] ?_))
    show TrC _ _ _ _ [(8, _), (10, _), (20, _), (19, _), (18, _), (17, _), (12, _), (3, _)] _ _
    -- region 7: almanac.go:55
    refine tr_region ?_
    refine tr_val (ov_add rfl rfl rfl (w64 (by omega))) rfl rfl rfl ?_
    refine tr_val (ov_move rfl rfl) rfl rfl rfl ?_
    skip
    exact tr_nil (hK6 (⟨i + 1, IntKind.i64.wrap (t + φ (gt (cutV L a b) i))⟩) _ _ (⟨by omega, by omega, (lost_step hi0 (by omega)).symm.trans hx, H.drop0⟩) (by first | omega | (dsimp only; omega)) (Sub.cons rfl (Sub.cons rfl (Sub.cons rfl (Sub.cons rfl (Sub.cons rfl (Sub.cons rfl Sub.nil)))))))
  · skip
    refine tr_exit (hK4 _ _ (TrC.keep [20, 19, 8, 18, 17, 12, 3] ?_))
    show TrC _ _ _ _ [(20, _), (19, _), (8, _), (18, _), (17, _), (12, _), (3, _)] _ _
    refine tr_seq (fun K11 hK11 => ?_)
    -- region 8: almanac.go:58
    refine tr_region ?_
    refine tr_val (ov_move rfl rfl) rfl rfl rfl ?_
    refine tr_val (ov_assign rfl rfl) rfl rfl rfl ?_
    refine tr_nil (hK11 _ _ (TrC.keep [8, 20, 19, 18, 17, 12, 3] ?_))
    show TrC _ _ _ _ [(8, _), (20, _), (19, _), (18, _), (17, _), (12, _), (3, _)] _ _
    refine tr_ret (post_ret1 (.inr rfl) rfl rfl ?_)
    rw [← hx, lost_end (by omega)]; exact ⟨rfl, H.drop0⟩

/-! (*curfew/almanac.Almanac).Lost -/
set_option maxRecDepth 20000 in
theorem LostN_c (p : Option Addr) (w : World) (a b : Int) : Does Try.prog 27 #[.pointer p, .int .i64 a, .int .i64 b, .nilFunc] w (fun v w' => v = .int .i64 0 ∧ SH w noBlocks [] w') := by
  refine does_enter4 Try.func27 rfl Try.ntmps27 rfl ?_
  have H := SH.start w noBlocks
  refine tr_seq (fun K1 hK1 => ?_)
  -- region 0: almanac.go:51
  refine tr_region ?_
  refine tr_val (ov_assign rfl rfl) rfl rfl rfl ?_
  refine tr_nil (hK1 _ _ (TrC.keep [8, 0, 1, 2, 3] ?_))
  show TrC _ _ _ _ [(8, _), (0, _), (1, _), (2, _), (3, _)] _ _
  refine tr_seq (fun K2 hK2 => ?_)
  refine tr_seq (fun K3 hK3 => ?_)
  -- region 1: almanac.go:52
  refine tr_region ?_
  refine tr_val (ov_move rfl rfl) rfl rfl rfl ?_
  first | refine tr_val (ov_feql_nil rfl Try.underlying28 rfl rfl) rfl rfl rfl ?_ | refine tr_val (ov_feqln_nil rfl Try.underlying28 rfl rfl) rfl rfl rfl ?_
  refine tr_nil (hK3 _ _ (TrC.keep [12, 8, 0, 1, 2, 3] ?_))
  show TrC _ _ _ _ [(12, _), (8, _), (0, _), (1, _), (2, _), (3, _)] _ _
  refine tr_cond_t rfl (rfl) ?_
  refine tr_seq (fun K4 hK4 => ?_)
  -- region 2: almanac.go:53
  refine tr_region ?_
  refine tr_val (ov_assign rfl rfl) rfl rfl rfl ?_
  refine tr_nil (hK4 _ _ (TrC.keep [8, 12, 0, 1, 2, 3] ?_))
  show TrC _ _ _ _ [(8, _), (12, _), (0, _), (1, _), (2, _), (3, _)] _ _
  refine tr_ret (post_ret1 (.inr rfl) rfl rfl ?_)
  exact ⟨rfl, H⟩

/-! curfew/curfewref09.Lost -/
set_option maxRecDepth 20000 in
theorem LostR_c (A : Option Addr) (c : Nat) (L : List Sp) (w : World) (hR : Rd w A 2 (L.map encSpan)) (hL : L.length ≤ 4294967296) (a b m k : Int) : Does Try.prog 30 #[.slice A L.length c, .int .i64 a, .int .i64 b, .int .i64 m, .int .i64 k] w (fun v w' => v = .int .i64 (lostL (lostF m k) 0 (cutV L a b)) ∧ SH w noBlocks [] w') := by
  have hc32 := (cutV_small (L := L) (a := a) (b := b)).1
  refine does_enter5 Try.func30 rfl Try.ntmps30 rfl ?_
  have H := SH.start w noBlocks
  refine tr_seq (fun K1 hK1 => ?_)
  -- region 0: ref.go:47
  refine tr_region ?_
  refine tr_val (ov_assign rfl rfl) rfl rfl rfl ?_
  refine tr_nil (hK1 _ _ (TrC.keep [10, 0, 1, 2, 3, 4] ?_))
  show TrC _ _ _ _ [(10, _), (0, _), (1, _), (2, _), (3, _), (4, _)] _ _
  refine tr_seq (fun K2 hK2 => ?_)
  -- region 1: ref.go:48
  refine tr_region ?_
  refine tr_val (ov_assign rfl rfl) rfl rfl rfl ?_
  refine tr_nil (hK2 _ _ (TrC.keep [11, 10, 0, 1, 2, 3, 4] ?_))
  show TrC _ _ _ _ [(11, _), (10, _), (0, _), (1, _), (2, _), (3, _), (4, _)] _ _
  refine tr_seq (fun K3 hK3 => ?_)
  -- region 2: ref.go:49
  refine tr_region ?_
  refine tr_val (ov_move rfl rfl) rfl rfl rfl ?_
  refine tr_val (ov_move rfl rfl) rfl rfl rfl ?_
  refine tr_val (ov_move rfl rfl) rfl rfl rfl ?_
  refine tr_call (CutR_c A c L _ (H.rd0 hR) hL a b) rfl rfl rfl Try.call60 rfl rfl rfl ?_
  rintro _ w1 ⟨A', c', rfl, HC⟩
  have H := H.call0r HC
  refine tr_val (ov_assign rfl rfl) rfl rfl rfl ?_
  refine tr_nil (hK3 _ _ (TrC.keep [12, 11, 10, 3, 4] ?_))
  show TrC _ _ _ _ [(12, _), (11, _), (10, _), (3, _), (4, _)] _ _
  refine tr_seq (fun K4 hK4 => ?_)
  refine tr_seq (fun K5 hK5 => ?_)
  -- region 3: ref.go:50
  refine tr_region ?_
  refine tr_val (ov_assign rfl rfl) rfl rfl rfl ?_
  refine tr_nil (hK5 _ _ (TrC.keep [13, 12, 11, 10, 3, 4] ?_))
  show TrC _ _ _ _ [(13, _), (12, _), (11, _), (10, _), (3, _), (4, _)] _ _
  refine tr_block ?_
  refine tr_loop_ (X := Int × Int) [12, 10, 3, 4] (fun ⟨i, t⟩ => [(13, .int .i64 i), (11, .int .i64 t)]) (fun ⟨i, t⟩ w' => 0 ≤ i ∧ i ≤ (cutV L a b).length ∧ lostL (lostF m k) t ((cutV L a b).drop i.toNat) = lostL (lostF m k) 0 (cutV L a b) ∧ SH w noBlocks [vec A' c' 40 2 encSpan (cutV L a b)] w') (fun ⟨i, t⟩ => ((cutV L a b).length - i).toNat) (⟨0, 0⟩) (Sub.cons rfl (Sub.cons rfl (Sub.cons rfl (Sub.cons rfl (Sub.cons rfl (Sub.cons rfl Sub.nil)))))) (⟨by omega, by omega, rfl, H⟩) ?_
  rintro ⟨i, t⟩ w2 ⟨hi0, hi1, hx, H⟩ K6 hK6
  show TrC _ _ _ _ [(13, _), (11, _), (12, _), (10, _), (3, _), (4, _)] _ _
  refine tr_seq (fun K7 hK7 => ?_)
  refine tr_seq (fun K8 hK8 => ?_)
  -- region 4: ref.go:50
  refine tr_region ?_
  refine tr_val (ov_move rfl rfl) rfl rfl rfl ?_
  refine tr_val (ov_move rfl rfl) rfl rfl rfl ?_
  refine tr_val (ov_len rfl rfl Try.underlying33 rfl) rfl rfl rfl ?_
  refine tr_val (ov_lss rfl rfl rfl) rfl rfl rfl ?_
  refine tr_nil (hK8 _ _ (TrC.keep [21, 13, 11, 12, 10, 3, 4] ?_))
  show TrC _ _ _ _ [(21, _), (13, _), (11, _), (12, _), (10, _), (3, _), (4, _)] _ _
  first | refine tr_cond rfl (fun c21 => ?_) (fun c21 => ?_) | refine tr_condb rfl (fun c21 => ?_) (fun c21 => ?_)
  · skip
    refine tr_skip (hK7 _ _ (TrC.keep [21, 13, 11, 12, 10, 3, 4] ?_))
    show TrC _ _ _ _ [(21, _), (13, _), (11, _), (12, _), (10, _), (3, _), (4, _)] _ _
    refine tr_seq (fun K9 hK9 => ?_)
    refine tr_block ?_
    -- region 6: ref.go:51
    have hs := cutV_small.2 _ (gt_mem (L := (cutV L a b)) hi0 (by omega))
    refine tr_quiet mixed (by kernel_rfl) H ?_
    refine tq_val (fun _ H => ov_move rfl rfl) rfl rfl rfl ?_
    refine tq_val (fun _ H => ov_move rfl rfl) rfl rfl rfl ?_
    refine tq_val (fun _ H => ov_move rfl rfl) rfl rfl rfl ?_
    refine tq_val (fun _ H => ov_indexAddrR (vec_rd H.get0 lenSpan (by decide)) rfl Try.underlying33 (Try.sizeOf40 _) rfl rfl (by omega) (by omega)) rfl rfl rfl ?_
    refine tq_val (fun _ H => ov_fieldAddr rfl Try.underlying40 rfl (Try.sizeOf2 _) (by decide) rfl) rfl rfl rfl ?_
    refine tq_val (fun _ H => ld_Span_1 (vec_rd H.get0 lenSpan (by decide)) rfl (Try.isAgg2 _) rfl (by omega) (by omega)) rfl rfl rfl ?_
    refine tq_val (fun _ H => ov_move rfl rfl) rfl rfl rfl ?_
    refine tq_val (fun _ H => ov_move rfl rfl) rfl rfl rfl ?_
    refine tq_val (fun _ H => ov_indexAddrR (vec_rd H.get0 lenSpan (by decide)) rfl Try.underlying33 (Try.sizeOf40 _) rfl rfl (by omega) (by omega)) rfl rfl rfl ?_
    refine tq_val (fun _ H => ov_fieldAddr rfl Try.underlying40 rfl (Try.sizeOf2 _) (by decide) rfl) rfl rfl rfl ?_
    refine tq_val (fun _ H => ld_Span_0 (vec_rd H.get0 lenSpan (by decide)) rfl (Try.isAgg2 _) rfl (by omega) (by omega)) rfl rfl rfl ?_
    refine tq_val (fun _ H => ov_sub rfl rfl rfl (w64 (by omega))) rfl rfl rfl ?_
    refine tq_val (fun _ H => ov_move rfl rfl) rfl rfl rfl ?_
    refine tq_val (fun _ H => ov_mul rfl rfl rfl rfl) rfl rfl rfl ?_
    refine tq_val (fun _ H => ov_add rfl rfl rfl rfl) rfl rfl rfl ?_
    refine tq_val (fun _ H => ov_move rfl rfl) rfl rfl rfl ?_
    refine tq_val (fun _ H => ov_add rfl rfl rfl rfl) rfl rfl rfl ?_
    refine tq_val (fun _ H => ov_assign rfl rfl) rfl rfl rfl ?_
    refine tq_nil ?_
    intro w3 H
    refine hK9 _ _ (TrC.keep [11, 21, 13, 12, 10, 3, 4] ?_)
    show TrC _ _ _ _ [(11, _), (21, _), (13, _), (12, _), (10, _), (3, _), (4, _)] _ _
    -- region 5: ref.go:50
    refine tr_region ?_
    refine tr_val (ov_move rfl rfl) rfl rfl rfl ?_
    refine tr_val (ov_add rfl rfl rfl (w64 (by omega))) rfl rfl rfl ?_
    refine tr_val (ov_assign rfl rfl) rfl rfl rfl ?_
    skip
    exact tr_nil (hK6 (⟨i + 1, IntKind.i64.wrap (t + lostF m k (gt (cutV L a b) i))⟩) _ _ (⟨by omega, by omega, (lost_step hi0 (by omega)).symm.trans hx, H⟩) (by first | omega | (dsimp only; omega)) (Sub.cons rfl (Sub.consE rfl (congrArg (Value.int .i64) (lost_ref _ _ _)) (Sub.cons rfl (Sub.cons rfl (Sub.cons rfl (Sub.cons rfl Sub.nil)))))))
  · skip
    refine tr_exit (hK4 _ _ (TrC.keep [21, 13, 11, 12, 10, 3, 4] ?_))
    show TrC _ _ _ _ [(21, _), (13, _), (11, _), (12, _), (10, _), (3, _), (4, _)] _ _
    refine tr_seq (fun K10 hK10 => ?_)
    -- region 7: ref.go:53
    refine tr_region ?_
    refine tr_val (ov_move rfl rfl) rfl rfl rfl ?_
    refine tr_val (ov_assign rfl rfl) rfl rfl rfl ?_
    refine tr_nil (hK10 _ _ (TrC.keep [10, 21, 13, 11, 12, 3, 4] ?_))
    show TrC _ _ _ _ [(10, _), (21, _), (13, _), (11, _), (12, _), (3, _), (4, _)] _ _
    refine tr_ret (post_ret1 (.inr rfl) rfl rfl ?_)
    rw [← hx, lost_end (by omega)]; exact ⟨rfl, H.drop0⟩

/-! (*curfew/almanac.Almanac).Free -/
set_option maxRecDepth 20000 in
theorem FreeF_c (p : Option Addr) (a b : Int) (w : World) : Does Try.prog 58 #[.pointer p, .int .i64 a, .int .i64 b] w (fun v w' => ∃ b1 b2 b3, v = .func (.func 71) #[] #[.pointer (some ⟨b1, 0, none⟩), .pointer (some ⟨b2, 0, none⟩), .pointer (some ⟨b3, 0, none⟩)] ∧ SH w noBlocks [blk b1 2 [.int .i64 a], blk b2 2 [.int .i64 b], blk b3 34 [.pointer p]] w') := by
  refine does_enter3 Try.func58 rfl Try.ntmps58 rfl ?_
  have H := SH.start w noBlocks
  refine tr_seq (fun K1 hK1 => ?_)
  -- region 0: almanac.go:62
  refine tr_region ?_
  refine tr_box H rfl rfl rfl rfl rfl rfl ?_
  intro b1 w1 hb1 H
  refine tr_box H rfl rfl rfl rfl rfl rfl ?_
  intro b2 w2 hb2 H
  refine tr_box H rfl rfl rfl rfl rfl rfl ?_
  intro b3 w3 hb3 H
  refine tr_val (ov_assign rfl rfl) rfl rfl rfl ?_
  refine tr_nil (hK1 _ _ (TrC.keep [6, 5, 4, 3] ?_))
  show TrC _ _ _ _ [(6, _), (5, _), (4, _), (3, _)] _ _
  refine tr_seq (fun K2 hK2 => ?_)
  -- region 1: almanac.go:63
  refine tr_region ?_
  refine tr_val (ov_makeFunc3 rfl rfl rfl rfl) rfl rfl rfl ?_
  refine tr_val (ov_assign rfl rfl) rfl rfl rfl ?_
  refine tr_nil (hK2 _ _ (TrC.keep [6] ?_))
  show TrC _ _ _ _ [(6, _)] _ _
  refine tr_ret (post_ret1 (.inr rfl) rfl rfl ?_)
  exact ⟨b2, b3, b1, rfl, H.top1⟩

/-! (*curfew/almanac.Almanac).Free$1 -/
set_option maxRecDepth 20000 in
theorem Free1_c (b1 b2 b3 : Nat) (a b : Int) (p : Option Addr) (g : Option Nat) (L : List Sp) (ex : List Res) (r : Nat) (JJ : List Sp → List Res → Prop) (rs0 : List Res) (w : World) (hO : Own ((blk b1 2 [.int .i64 a] :: blk b2 2 [.int .i64 b] :: blk b3 34 [.pointer p] :: alm p g L :: ex) ++ rs0) w) (hJ0 : JJ [] rs0) (hL : L.length ≤ 4294967296) (hG : good 0 L = true) (hY : ∀ pre x rs1 w2, JJ pre rs1 → (∃ rest, pre ++ x :: rest = freeV L a b) → Own rs1 w2 → Yields Try.prog r (.agg #[.int .i64 x.1, .int .i64 x.2]) w2 (fun v w3 => v = .bool true ∧ ∃ rs2, JJ (pre ++ [x]) rs2 ∧ SH w2 (footAll rs1) rs2 w3)) : Does Try.prog 71 #[.func (.yield r) #[] #[], .pointer (some ⟨b1, 0, none⟩), .pointer (some ⟨b2, 0, none⟩), .pointer (some ⟨b3, 0, none⟩)] w (fun v w3 => ∃ rs2, JJ (freeV L a b) rs2 ∧ SH w (footAll ((blk b1 2 [.int .i64 a] :: blk b2 2 [.int .i64 b] :: blk b3 34 [.pointer p] :: alm p g L :: ex) ++ rs0)) ((blk b1 2 [.int .i64 a] :: blk b2 2 [.int .i64 b] :: blk b3 34 [.pointer p] :: alm p g L :: ex) ++ rs2) w3) := by
  refine does_enter4 Try.func71 rfl Try.ntmps71 rfl ?_
  have H : SH w (footAll ((blk b1 2 [.int .i64 a] :: blk b2 2 [.int .i64 b] :: blk b3 34 [.pointer p] :: alm p g L :: ex) ++ rs0)) (blk b1 2 [.int .i64 a] :: blk b2 2 [.int .i64 b] :: blk b3 34 [.pointer p] :: alm p g L :: ex ++ rs0) w := SH.ofOwn hO
  obtain ⟨f0, hf0⟩ : ∃ f0, max a 0 = f0 := ⟨_, rfl⟩
  obtain ⟨hi, hhi⟩ : ∃ hi, min b 1125899906842624 = hi := ⟨_, rfl⟩
  have hfv : freeV L a b = freeR L f0 hi := by unfold freeV; rw [hf0, hhi]
  rw [hfv] at hY ⊢
  refine tr_seq (fun K1 hK1 => ?_)
  -- region 0: almanac.go:64
  refine tr_quiet mixed (by kernel_rfl) H ?_
  first | refine tq_val (fun _ H => ov_load_blk H.get0 rfl (Try.isAgg2 _) rfl rfl rfl) rfl rfl rfl ?_ | refine tq_val (fun _ H => ov_load_blk H.get1 rfl (Try.isAgg2 _) rfl rfl rfl) rfl rfl rfl ?_ | refine tq_val (fun _ H => ov_load_blk H.get2 rfl (Try.isAgg2 _) rfl rfl rfl) rfl rfl rfl ?_ | refine tq_val (fun _ H => ov_load_blk H.get3 rfl (Try.isAgg2 _) rfl rfl rfl) rfl rfl rfl ?_ | refine tq_val (fun _ H => ov_load_blk H.get4 rfl (Try.isAgg2 _) rfl rfl rfl) rfl rfl rfl ?_ | refine tq_val (fun _ H => ov_load_blk H.get5 rfl (Try.isAgg2 _) rfl rfl rfl) rfl rfl rfl ?_
  refine tq_val (fun _ H => ov_eq (ov_max rfl rfl rfl) (congrArg (Value.int .i64) hf0)) rfl rfl rfl ?_
  first | refine tq_val (fun _ H => ov_load_blk H.get0 rfl (Try.isAgg2 _) rfl rfl rfl) rfl rfl rfl ?_ | refine tq_val (fun _ H => ov_load_blk H.get1 rfl (Try.isAgg2 _) rfl rfl rfl) rfl rfl rfl ?_ | refine tq_val (fun _ H => ov_load_blk H.get2 rfl (Try.isAgg2 _) rfl rfl rfl) rfl rfl rfl ?_ | refine tq_val (fun _ H => ov_load_blk H.get3 rfl (Try.isAgg2 _) rfl rfl rfl) rfl rfl rfl ?_ | refine tq_val (fun _ H => ov_load_blk H.get4 rfl (Try.isAgg2 _) rfl rfl rfl) rfl rfl rfl ?_ | refine tq_val (fun _ H => ov_load_blk H.get5 rfl (Try.isAgg2 _) rfl rfl rfl) rfl rfl rfl ?_
  refine tq_val (fun _ H => ov_eq (ov_min rfl rfl rfl) (congrArg (Value.int .i64) hhi)) rfl rfl rfl ?_
  refine tq_val (fun _ H => ov_assign rfl rfl) rfl rfl rfl ?_
  refine tq_val (fun _ H => ov_assign rfl rfl) rfl rfl rfl ?_
  refine tq_nil ?_
  intro w1 H
  refine hK1 _ _ (TrC.keep [6, 5, 0, 3] ?_)
  show TrC _ _ _ _ [(6, _), (5, _), (0, _), (3, _)] _ _
  refine tr_block ?_
  refine tr_loop_ (X := Int × List Sp × List Res) [0, 3] (fun ⟨f, pre, rs⟩ => [(5, .int .i64 f), (6, .int .i64 hi)]) (fun ⟨f, pre, rs⟩ w' => 0 ≤ f ∧ pre ++ freeR L f hi = freeR L f0 hi ∧ JJ pre rs ∧ SH w (footAll ((blk b1 2 [.int .i64 a] :: blk b2 2 [.int .i64 b] :: blk b3 34 [.pointer p] :: alm p g L :: ex) ++ rs0)) (blk b1 2 [.int .i64 a] :: blk b2 2 [.int .i64 b] :: blk b3 34 [.pointer p] :: alm p g L :: ex ++ rs) w') (fun ⟨f, pre, rs⟩ => (hi - f).toNat) (⟨f0, [], rs0⟩) (Sub.cons rfl (Sub.cons rfl (Sub.cons rfl (Sub.cons rfl Sub.nil)))) (⟨by omega, rfl, hJ0, H⟩) ?_
  rintro ⟨f, pre, rs⟩ w2 ⟨hf0', hx, hJ, H⟩ K2 hK2
  show TrC _ _ _ _ [(5, _), (6, _), (0, _), (3, _)] _ _
  refine tr_seq (fun K3 hK3 => ?_)
  refine tr_seq (fun K4 hK4 => ?_)
  -- region 1: almanac.go:65
  refine tr_region ?_
  refine tr_val (ov_move rfl rfl) rfl rfl rfl ?_
  refine tr_val (ov_move rfl rfl) rfl rfl rfl ?_
  refine tr_val (ov_lss rfl rfl rfl) rfl rfl rfl ?_
  refine tr_nil (hK4 _ _ (TrC.keep [16, 5, 6, 0, 3] ?_))
  show TrC _ _ _ _ [(16, _), (5, _), (6, _), (0, _), (3, _)] _ _
  first | refine tr_cond rfl (fun c16 => ?_) (fun c16 => ?_) | refine tr_condb rfl (fun c16 => ?_) (fun c16 => ?_)
  · skip
    refine tr_skip (hK3 _ _ (TrC.keep [16, 5, 6, 0, 3] ?_))
    show TrC _ _ _ _ [(16, _), (5, _), (6, _), (0, _), (3, _)] _ _
    refine tr_block ?_
    refine tr_seq (fun K5 hK5 => ?_)
    -- region 2: almanac.go:66
    refine tr_region ?_
    first | refine tr_val (ov_load_blk H.get0 rfl (Try.isAgg34 _) rfl rfl rfl) rfl rfl rfl ?_ | refine tr_val (ov_load_blk H.get1 rfl (Try.isAgg34 _) rfl rfl rfl) rfl rfl rfl ?_ | refine tr_val (ov_load_blk H.get2 rfl (Try.isAgg34 _) rfl rfl rfl) rfl rfl rfl ?_ | refine tr_val (ov_load_blk H.get3 rfl (Try.isAgg34 _) rfl rfl rfl) rfl rfl rfl ?_ | refine tr_val (ov_load_blk H.get4 rfl (Try.isAgg34 _) rfl rfl rfl) rfl rfl rfl ?_ | refine tr_val (ov_load_blk H.get5 rfl (Try.isAgg34 _) rfl rfl rfl) rfl rfl rfl ?_
    refine tr_val (ov_move rfl rfl) rfl rfl rfl ?_
    refine tr_call (Next_c p L _ (alm_read H.get3) f hL) rfl rfl rfl Try.call20 rfl rfl rfl ?_
    rintro _ w3 ⟨rfl, HC⟩
    have H := H.call0n HC
    refine tr_val (ov_move rfl rfl) rfl rfl rfl ?_
    refine tr_val (ov_extract rfl rfl rfl) rfl rfl rfl ?_
    refine tr_val (ov_extract rfl rfl rfl) rfl rfl rfl ?_
    refine tr_alloc H rfl (Try.zeroValue40 _) rfl rfl rfl rfl ?_
    intro bn w4 hbn H
    first | (refine tr_storeW H.get0 rfl (Try.sizeOf40 _) rfl rfl rfl rfl rfl rfl rfl rfl ?_; intro w5 U; have H := H.upd0 U; clear U) | (refine tr_storeW H.get1 rfl (Try.sizeOf40 _) rfl rfl rfl rfl rfl rfl rfl rfl ?_; intro w5 U; have H := H.upd1 U; clear U) | (refine tr_storeW H.get2 rfl (Try.sizeOf40 _) rfl rfl rfl rfl rfl rfl rfl rfl ?_; intro w5 U; have H := H.upd2 U; clear U) | (refine tr_storeW H.get3 rfl (Try.sizeOf40 _) rfl rfl rfl rfl rfl rfl rfl rfl ?_; intro w5 U; have H := H.upd3 U; clear U) | (refine tr_storeW H.get4 rfl (Try.sizeOf40 _) rfl rfl rfl rfl rfl rfl rfl rfl ?_; intro w5 U; have H := H.upd4 U; clear U) | (refine tr_storeW H.get5 rfl (Try.sizeOf40 _) rfl rfl rfl rfl rfl rfl rfl rfl ?_; intro w5 U; have H := H.upd5 U; clear U)
    refine tr_val (ov_assign rfl rfl) rfl rfl rfl ?_
    refine tr_nil (hK5 _ _ (TrC.keep [8, 7, 16, 5, 6, 0, 3] ?_))
    show TrC _ _ _ _ [(8, _), (7, _), (16, _), (5, _), (6, _), (0, _), (3, _)] _ _
    refine tr_seq (fun K6 hK6 => ?_)
    refine tr_seq (fun K7 hK7 => ?_)
    -- region 3: almanac.go:67
    refine tr_region ?_
    refine tr_val (ov_move rfl rfl) rfl rfl rfl ?_
    first | refine tr_val (ov_not rfl rfl) rfl rfl rfl ?_ | refine tr_val (ov_notb rfl rfl) rfl rfl rfl ?_
    refine tr_nil (hK7 _ _ (TrC.keep [24, 7, 16, 5, 6, 0, 3] ?_))
    show TrC _ _ _ _ [(24, _), (7, _), (16, _), (5, _), (6, _), (0, _), (3, _)] _ _
    first | refine tr_cond rfl (fun c24 => ?_) (fun c24 => ?_) | refine tr_condb rfl (fun c24 => ?_) (fun c24 => ?_)
    · have hn : nextO L f = none := by cases h : nextO L f with | none => rfl | some s => rw [h] at c24; cases c24
      have hfr := free_none hG (by omega) hn (b := hi)
      refine tr_seq (fun K8 hK8 => ?_)
      -- region 4: almanac.go:68
      refine tr_regionY ?_
      refine ty_val (ov_move rfl rfl) rfl rfl rfl ?_
      refine ty_val (ov_move rfl rfl) rfl rfl rfl ?_
      refine ty_val (ov_move rfl rfl) rfl rfl rfl ?_
      refine ty_val (ov_build rfl (fun ρ k => bs2 k rfl rfl) (bld40_0_1 _ _ _)) rfl rfl rfl ?_
      refine ty_yield (hY pre (f, hi) rs _ hJ (⟨[], by rw [← hx, hfr]⟩) (SH.ownR (blk bn 40 [.int .i64 ((nextO L f).getD (0, 0)).1, .int .i64 ((nextO L f).getD (0, 0)).2] :: blk b1 2 [.int .i64 a] :: blk b2 2 [.int .i64 b] :: blk b3 34 [.pointer p] :: alm p g L :: ex) H)) rfl rfl rfl rfl rfl rfl ?_
      rintro _ wY1 ⟨rfl, rs2, hJ2, C⟩
      have H := SH.callR (blk bn 40 [.int .i64 ((nextO L f).getD (0, 0)).1, .int .i64 ((nextO L f).getD (0, 0)).2] :: blk b1 2 [.int .i64 a] :: blk b2 2 [.int .i64 b] :: blk b3 34 [.pointer p] :: alm p g L :: ex) H C
      refine ty_nil (hK8 _ _ (TrC.keep [24, 7, 16, 5, 6, 0, 3] ?_))
      show TrC _ _ _ _ [(24, _), (7, _), (16, _), (5, _), (6, _), (0, _), (3, _)] _ _
      refine tr_ret (post_ret0 (.inr rfl) rfl  ?_)
      refine ⟨rs2, ?_, H.drop0⟩
      rw [← hx, hfr]; exact hJ2
    · obtain ⟨s, hn⟩ : ∃ s, nextO L f = some s := by cases h : nextO L f with | none => rw [h] at c24; cases c24 | some s => exact ⟨s, rfl⟩
      have hlt := next_lt hn
      have hfr := free_some hG (by omega) hn (b := hi)
      have hs1 : ((nextO L f).getD (0, 0)) = s := by rw [hn]; rfl
      rw [← hs1] at hfr hlt
      refine tr_skip (hK6 _ _ (TrC.keep [24, 7, 16, 5, 6, 0, 3] ?_))
      show TrC _ _ _ _ [(24, _), (7, _), (16, _), (5, _), (6, _), (0, _), (3, _)] _ _
      refine tr_seq (fun K9 hK9 => ?_)
      refine tr_seq (fun K10 hK10 => ?_)
      -- region 5: almanac.go:71
      refine tr_region ?_
      refine tr_val (ov_move rfl rfl) rfl rfl rfl ?_
      refine tr_val (ov_fieldAddr rfl Try.underlying40 rfl (Try.sizeOf2 _) (by decide) rfl) rfl rfl rfl ?_
      first | refine tr_val (ov_load_blk H.get0 rfl (Try.isAgg2 _) rfl rfl rfl) rfl rfl rfl ?_ | refine tr_val (ov_load_blk H.get1 rfl (Try.isAgg2 _) rfl rfl rfl) rfl rfl rfl ?_ | refine tr_val (ov_load_blk H.get2 rfl (Try.isAgg2 _) rfl rfl rfl) rfl rfl rfl ?_ | refine tr_val (ov_load_blk H.get3 rfl (Try.isAgg2 _) rfl rfl rfl) rfl rfl rfl ?_ | refine tr_val (ov_load_blk H.get4 rfl (Try.isAgg2 _) rfl rfl rfl) rfl rfl rfl ?_ | refine tr_val (ov_load_blk H.get5 rfl (Try.isAgg2 _) rfl rfl rfl) rfl rfl rfl ?_
      refine tr_val (ov_move rfl rfl) rfl rfl rfl ?_
      refine tr_val (ov_min rfl rfl rfl) rfl rfl rfl ?_
      refine tr_val (ov_build rfl (fun ρ k => bs2 k rfl rfl) (bld40_0_1 _ _ _)) rfl rfl rfl ?_
      refine tr_alloc H rfl (Try.zeroValue40 _) rfl rfl rfl rfl ?_
      intro bg w6 hbg H
      first | (refine tr_storeW H.get0 rfl (Try.sizeOf40 _) rfl rfl rfl rfl rfl rfl rfl rfl ?_; intro w7 U; have H := H.upd0 U; clear U) | (refine tr_storeW H.get1 rfl (Try.sizeOf40 _) rfl rfl rfl rfl rfl rfl rfl rfl ?_; intro w7 U; have H := H.upd1 U; clear U) | (refine tr_storeW H.get2 rfl (Try.sizeOf40 _) rfl rfl rfl rfl rfl rfl rfl rfl ?_; intro w7 U; have H := H.upd2 U; clear U) | (refine tr_storeW H.get3 rfl (Try.sizeOf40 _) rfl rfl rfl rfl rfl rfl rfl rfl ?_; intro w7 U; have H := H.upd3 U; clear U) | (refine tr_storeW H.get4 rfl (Try.sizeOf40 _) rfl rfl rfl rfl rfl rfl rfl rfl ?_; intro w7 U; have H := H.upd4 U; clear U) | (refine tr_storeW H.get5 rfl (Try.sizeOf40 _) rfl rfl rfl rfl rfl rfl rfl rfl ?_; intro w7 U; have H := H.upd5 U; clear U)
      refine tr_nil (hK10 _ _ (TrC.keep [9, 24, 7, 16, 5, 6, 0, 3] ?_))
      show TrC _ _ _ _ [(9, _), (24, _), (7, _), (16, _), (5, _), (6, _), (0, _), (3, _)] _ _
      refine tr_seq (fun K11 hK11 => ?_)
      -- region 6: almanac.go:71
      refine tr_regionY ?_
      refine ty_val (ov_fieldAddr rfl Try.underlying40 rfl (Try.sizeOf2 _) (by decide) rfl) rfl rfl rfl ?_
      first | refine ty_val (ov_load_blk H.get0 rfl (Try.isAgg2 _) rfl rfl rfl) rfl rfl rfl ?_ | refine ty_val (ov_load_blk H.get1 rfl (Try.isAgg2 _) rfl rfl rfl) rfl rfl rfl ?_ | refine ty_val (ov_load_blk H.get2 rfl (Try.isAgg2 _) rfl rfl rfl) rfl rfl rfl ?_ | refine ty_val (ov_load_blk H.get3 rfl (Try.isAgg2 _) rfl rfl rfl) rfl rfl rfl ?_ | refine ty_val (ov_load_blk H.get4 rfl (Try.isAgg2 _) rfl rfl rfl) rfl rfl rfl ?_ | refine ty_val (ov_load_blk H.get5 rfl (Try.isAgg2 _) rfl rfl rfl) rfl rfl rfl ?_
      refine ty_val (ov_fieldAddr rfl Try.underlying40 rfl (Try.sizeOf2 _) (by decide) rfl) rfl rfl rfl ?_
      first | refine ty_val (ov_load_blk H.get0 rfl (Try.isAgg2 _) rfl rfl rfl) rfl rfl rfl ?_ | refine ty_val (ov_load_blk H.get1 rfl (Try.isAgg2 _) rfl rfl rfl) rfl rfl rfl ?_ | refine ty_val (ov_load_blk H.get2 rfl (Try.isAgg2 _) rfl rfl rfl) rfl rfl rfl ?_ | refine ty_val (ov_load_blk H.get3 rfl (Try.isAgg2 _) rfl rfl rfl) rfl rfl rfl ?_ | refine ty_val (ov_load_blk H.get4 rfl (Try.isAgg2 _) rfl rfl rfl) rfl rfl rfl ?_ | refine ty_val (ov_load_blk H.get5 rfl (Try.isAgg2 _) rfl rfl rfl) rfl rfl rfl ?_
      refine ty_val (ov_lss rfl rfl rfl) rfl rfl rfl ?_
      refine ty_val (ov_move rfl rfl) rfl rfl rfl ?_
      first | refine ty_split (t := 41) rfl (fun s41 => ?_) (fun s41 => ?_) | refine ty_splitb (t := 41) rfl (fun s41 => ?_) (fun s41 => ?_)
      · skip
        refine ty_val (ov_move rfl rfl) rfl rfl rfl ?_
        first | refine ty_val (ov_load_blkN H.get0 rfl (Try.isAgg40 _) (Try.sizeOf40 _) rfl rfl rfl) rfl rfl rfl ?_ | refine ty_val (ov_load_blkN H.get1 rfl (Try.isAgg40 _) (Try.sizeOf40 _) rfl rfl rfl) rfl rfl rfl ?_ | refine ty_val (ov_load_blkN H.get2 rfl (Try.isAgg40 _) (Try.sizeOf40 _) rfl rfl rfl) rfl rfl rfl ?_ | refine ty_val (ov_load_blkN H.get3 rfl (Try.isAgg40 _) (Try.sizeOf40 _) rfl rfl rfl) rfl rfl rfl ?_ | refine ty_val (ov_load_blkN H.get4 rfl (Try.isAgg40 _) (Try.sizeOf40 _) rfl rfl rfl) rfl rfl rfl ?_ | refine ty_val (ov_load_blkN H.get5 rfl (Try.isAgg40 _) (Try.sizeOf40 _) rfl rfl rfl) rfl rfl rfl ?_
        refine ty_yield (hY pre (f, min ((nextO L f).getD (0, 0)).1 hi) rs _ hJ (⟨_, by rw [← hx, hfr, if_pos (show f < min ((nextO L f).getD (0, 0)).1 hi from s41)]; rfl⟩) (SH.ownR (blk bg 40 [.int .i64 (f, min ((nextO L f).getD (0, 0)).1 hi).1, .int .i64 (f, min ((nextO L f).getD (0, 0)).1 hi).2] :: blk bn 40 [.int .i64 ((nextO L f).getD (0, 0)).1, .int .i64 ((nextO L f).getD (0, 0)).2] :: blk b1 2 [.int .i64 a] :: blk b2 2 [.int .i64 b] :: blk b3 34 [.pointer p] :: alm p g L :: ex) H)) rfl rfl rfl rfl rfl rfl ?_
        rintro _ wY2 ⟨rfl, rs2, hJ2, C⟩
        have H := SH.callR (blk bg 40 [.int .i64 (f, min ((nextO L f).getD (0, 0)).1 hi).1, .int .i64 (f, min ((nextO L f).getD (0, 0)).1 hi).2] :: blk bn 40 [.int .i64 ((nextO L f).getD (0, 0)).1, .int .i64 ((nextO L f).getD (0, 0)).2] :: blk b1 2 [.int .i64 a] :: blk b2 2 [.int .i64 b] :: blk b3 34 [.pointer p] :: alm p g L :: ex) H C
        first | refine ty_val (ov_not rfl rfl) rfl rfl rfl ?_ | refine ty_val (ov_notb rfl rfl) rfl rfl rfl ?_
        refine ty_val (ov_pick (vb := undef) rfl rfl rfl rfl) rfl rfl rfl ?_
        refine ty_nil (hK11 _ _ (TrC.keep [46, 9, 24, 7, 16, 5, 6, 0, 3] ?_))
        show TrC _ _ _ _ [(46, _), (9, _), (24, _), (7, _), (16, _), (5, _), (6, _), (0, _), (3, _)] _ _
        refine tr_cond_f rfl (rfl) ?_
        refine tr_skip (hK9 _ _ (TrC.keep [46, 9, 24, 7, 16, 5, 6, 0, 3] ?_))
        show TrC _ _ _ _ [(46, _), (9, _), (24, _), (7, _), (16, _), (5, _), (6, _), (0, _), (3, _)] _ _
        -- region 7: almanac.go:74
        refine tr_region ?_
        refine tr_val (ov_fieldAddr rfl Try.underlying40 rfl (Try.sizeOf2 _) (by decide) rfl) rfl rfl rfl ?_
        first | refine tr_val (ov_load_blk H.get0 rfl (Try.isAgg2 _) rfl rfl rfl) rfl rfl rfl ?_ | refine tr_val (ov_load_blk H.get1 rfl (Try.isAgg2 _) rfl rfl rfl) rfl rfl rfl ?_ | refine tr_val (ov_load_blk H.get2 rfl (Try.isAgg2 _) rfl rfl rfl) rfl rfl rfl ?_ | refine tr_val (ov_load_blk H.get3 rfl (Try.isAgg2 _) rfl rfl rfl) rfl rfl rfl ?_ | refine tr_val (ov_load_blk H.get4 rfl (Try.isAgg2 _) rfl rfl rfl) rfl rfl rfl ?_ | refine tr_val (ov_load_blk H.get5 rfl (Try.isAgg2 _) rfl rfl rfl) rfl rfl rfl ?_
        refine tr_val (ov_assign rfl rfl) rfl rfl rfl ?_
        skip
        exact tr_nil (hK2 (⟨((nextO L f).getD (0, 0)).2, pre ++ [(f, min ((nextO L f).getD (0, 0)).1 hi)], rs2⟩) _ _ (⟨by omega, by rw [← hx, hfr, if_pos (show f < min ((nextO L f).getD (0, 0)).1 hi from s41)]; simp, hJ2, H.drop0.drop0⟩) (by first | omega | (dsimp only; omega)) (Sub.cons rfl (Sub.cons rfl (Sub.cons rfl (Sub.cons rfl Sub.nil)))))
      · skip
        refine ty_pass rfl rfl rfl ?_
        refine ty_pass rfl rfl rfl ?_
        refine ty_pass rfl rfl rfl ?_
        refine ty_pass rfl rfl rfl ?_
        refine ty_val (ov_pick_f (va := undef) rfl rfl rfl rfl) rfl rfl rfl ?_
        refine ty_nil (hK11 _ _ (TrC.keep [46, 9, 24, 7, 16, 5, 6, 0, 3] ?_))
        show TrC _ _ _ _ [(46, _), (9, _), (24, _), (7, _), (16, _), (5, _), (6, _), (0, _), (3, _)] _ _
        refine tr_cond_f rfl rfl ?_
        refine tr_skip (hK9 _ _ (TrC.keep [46, 9, 24, 7, 16, 5, 6, 0, 3] ?_))
        show TrC _ _ _ _ [(46, _), (9, _), (24, _), (7, _), (16, _), (5, _), (6, _), (0, _), (3, _)] _ _
        -- region 7: almanac.go:74
        refine tr_region ?_
        refine tr_val (ov_fieldAddr rfl Try.underlying40 rfl (Try.sizeOf2 _) (by decide) rfl) rfl rfl rfl ?_
        first | refine tr_val (ov_load_blk H.get0 rfl (Try.isAgg2 _) rfl rfl rfl) rfl rfl rfl ?_ | refine tr_val (ov_load_blk H.get1 rfl (Try.isAgg2 _) rfl rfl rfl) rfl rfl rfl ?_ | refine tr_val (ov_load_blk H.get2 rfl (Try.isAgg2 _) rfl rfl rfl) rfl rfl rfl ?_ | refine tr_val (ov_load_blk H.get3 rfl (Try.isAgg2 _) rfl rfl rfl) rfl rfl rfl ?_ | refine tr_val (ov_load_blk H.get4 rfl (Try.isAgg2 _) rfl rfl rfl) rfl rfl rfl ?_ | refine tr_val (ov_load_blk H.get5 rfl (Try.isAgg2 _) rfl rfl rfl) rfl rfl rfl ?_
        refine tr_val (ov_assign rfl rfl) rfl rfl rfl ?_
        skip
        exact tr_nil (hK2 (⟨((nextO L f).getD (0, 0)).2, pre, rs⟩) _ _ (⟨by omega, by rw [← hx, hfr, if_neg (show ¬ f < min ((nextO L f).getD (0, 0)).1 hi from s41)]; simp, hJ, H.drop0.drop0⟩) (by first | omega | (dsimp only; omega)) (Sub.cons rfl (Sub.cons rfl (Sub.cons rfl (Sub.cons rfl Sub.nil)))))
  · skip
    refine tr_exit (post_ret0 (.inl rfl) rfl  ?_)
    refine ⟨rs, ?_, H⟩
    rw [← hx, free_over (by omega), List.append_nil]; exact hJ

/-! curfew/curfewlaw09.free -/
set_option maxRecDepth 20000 in
theorem free_c (p : Option Addr) (g : Option Nat) (L : List Sp) (a b : Int) (w : World) (hA : (alm p g L).holds w) (hL : L.length ≤ 32) (hG : good 0 L = true) : Does Try.prog 26 #[.pointer p, .int .i64 a, .int .i64 b] w (fun v w' => ∃ A c, v = .tuple #[.slice A (freeV L a b).length c, .bool true] ∧ SH w (alm p g L).foot [vec A c 40 2 encSpan (freeV L a b), alm p g L] w') := by
  refine does_enterM3 Try.func26 rfl Try.ntmps26 rfl ?_
  have H := SH.own1 hA
  have hfl : (freeV L a b).length ≤ 33 := by have := free_len L (max a 0) (min b 1125899906842624); unfold freeV; omega
  refine tr_seq (fun K1 hK1 => ?_)
  -- region 0: law.go:12
  refine tr_region ?_
  refine tr_alloc H rfl (Try.zeroValue33 _) rfl rfl rfl rfl ?_
  intro b6 w1 hb6 H
  refine tr_alloc H rfl (Try.zeroValue4 _) rfl rfl rfl rfl ?_
  intro b7 w2 hb7 H
  refine tr_nil (hK1 _ _ (TrC.keep [7, 6, 0, 1, 2] ?_))
  show TrC _ _ _ _ [(7, _), (6, _), (0, _), (1, _), (2, _)] _ _
  refine tr_seq (fun K2 hK2 => ?_)
  -- region 1: law.go:13
  refine tr_region ?_
  refine tr_val (ov_move rfl rfl) rfl rfl rfl ?_
  refine tr_val (ov_move rfl rfl) rfl rfl rfl ?_
  refine tr_val (ov_move rfl rfl) rfl rfl rfl ?_
  refine tr_call (FreeF_c p a b _) rfl rfl rfl Try.call58 rfl rfl rfl ?_
  rintro _ w3 ⟨d1, d2, d3, rfl, HC⟩
  have H := H.call0 HC
  refine tr_val (ov_assign rfl rfl) rfl rfl rfl ?_
  refine tr_nil (hK2 _ _ (TrC.keep [8, 7, 6] ?_))
  show TrC _ _ _ _ [(8, _), (7, _), (6, _)] _ _
  refine tr_seq (fun K3 hK3 => ?_)
  refine tr_seq (fun K4 hK4 => ?_)
  -- region 2: law.go:14
  refine tr_region ?_
  refine tr_val (ov_move rfl rfl) rfl rfl rfl ?_
  first | refine tr_val (ov_feql_nil rfl Try.underlying83 rfl rfl) rfl rfl rfl ?_ | refine tr_val (ov_feqln_nil rfl Try.underlying83 rfl rfl) rfl rfl rfl ?_
  refine tr_nil (hK4 _ _ (TrC.keep [16, 8, 7, 6] ?_))
  show TrC _ _ _ _ [(16, _), (8, _), (7, _), (6, _)] _ _
  refine tr_cond_f rfl (rfl) ?_
  refine tr_skip (hK3 _ _ (TrC.keep [16, 8, 7, 6] ?_))
  show TrC _ _ _ _ [(16, _), (8, _), (7, _), (6, _)] _ _
  refine tr_seq (fun K5 hK5 => ?_)
  -- region 4: law.go:17
  refine tr_region ?_
  refine tr_alloc H rfl (Try.zeroValue33 _) rfl rfl rfl rfl ?_
  intro b9 w4 hb9 H
  have H := H.addNil 40 2 encSpan
  have H := H.top1.top6.top6.top7.top7.top7.top7
  refine tr_nil (hK5 _ _ (TrC.keep [9, 16, 8, 7, 6] ?_))
  show TrC _ _ _ _ [(9, _), (16, _), (8, _), (7, _), (6, _)] _ _
  refine tr_seqD (fun K6 hK6 => ?_)
  refine tr_seq (fun K7 hK7 => ?_)
  -- region 5: law.go:18
  refine tr_region ?_
  refine tr_val (ov_move rfl rfl) rfl rfl rfl ?_
  refine tr_nil (hK7 _ _ (TrC.keep [17, 9, 16, 8, 7, 6] ?_))
  show TrC _ _ _ _ [(17, _), (9, _), (16, _), (8, _), (7, _), (6, _)] _ _
  refine tr_block ?_
  refine tr_rangeFunc (d := 10) (e := 40) (encV := fun x : Sp => .agg #[.int .i64 x.1, .int .i64 x.2]) (encC := encSpan) (J := fun pre rs => ∃ A c, rs = [blk b9 33 [.slice A pre.length c], vec A c 40 2 encSpan pre]) (Ok := fun pre x => ∃ rest, pre ++ x :: rest = freeV L a b) (xs := freeV L a b) (own := blk d1 2 [.int .i64 a] :: blk d2 2 [.int .i64 b] :: blk d3 34 [.pointer p] :: alm p g L :: [blk b7 4 [.bool false], blk b6 33 [.slice none 0 0]]) (rsB := [blk b9 33 [.slice none 0 0], vec none 0 40 2 encSpan ([] : List Sp)]) H ⟨none, 0, rfl⟩ rfl Try.call71 rfl (fun r JJ rs0 w1 hO hJJ hY => Free1_c d1 d2 d3 a b p g L [blk b7 4 [.bool false], blk b6 33 [.slice none 0 0]] r JJ rs0 w1 hO hJJ (by omega) hG hY) ?_ ?_ ?_
  · intro r x rs1 w1 hO K hK
    have H := SH.ofOwn hO
    refine ti_region rfl (fun ⟨_, _, h⟩ => h) ?_
    refine tr_alloc H rfl (Try.zeroValue40 _) rfl rfl rfl rfl ?_
    intro b wA hbA H
    refine tr_storeW H.get0 rfl (Try.sizeOf40 _) rfl rfl rfl rfl rfl rfl rfl rfl ?_; intro wB U; have H := H.upd0 U; clear U
    exact tr_nil (hK b _ H)
  · intro r pre x b rs1 w1 hJ hok hO K hK
    obtain ⟨A, c, rfl⟩ := hJ
    have hpl : pre.length ≤ 32 := by obtain ⟨rest, e⟩ := hok; have := congrArg List.length e; simp at this; omega
    have H : SH w1 _ [blk b 40 [.int .i64 x.1, .int .i64 x.2], blk b9 33 [.slice A pre.length c], vec A c 40 2 encSpan pre] w1 := SH.ofOwn hO
    refine ti_block ?_
    refine ti_seq (fun K8 hK8 => ?_)
    refine ti_seq (fun K9 hK9 => ?_)
    -- region 7: law.go:19
    refine ti_region rfl (fun ⟨_, _, h⟩ => h) ?_
    first | refine tr_val (ov_load_blk H.get0 rfl (Try.isAgg33 _) rfl rfl rfl) rfl rfl rfl ?_ | refine tr_val (ov_load_blk H.get1 rfl (Try.isAgg33 _) rfl rfl rfl) rfl rfl rfl ?_ | refine tr_val (ov_load_blk H.get2 rfl (Try.isAgg33 _) rfl rfl rfl) rfl rfl rfl ?_ | refine tr_val (ov_load_blk H.get3 rfl (Try.isAgg33 _) rfl rfl rfl) rfl rfl rfl ?_ | refine tr_val (ov_load_blk H.get4 rfl (Try.isAgg33 _) rfl rfl rfl) rfl rfl rfl ?_ | refine tr_val (ov_load_blk H.get5 rfl (Try.isAgg33 _) rfl rfl rfl) rfl rfl rfl ?_ | refine tr_val (ov_load_blk H.get6 rfl (Try.isAgg33 _) rfl rfl rfl) rfl rfl rfl ?_ | refine tr_val (ov_load_blk H.get7 rfl (Try.isAgg33 _) rfl rfl rfl) rfl rfl rfl ?_ | refine tr_val (ov_load_blk H.get8 rfl (Try.isAgg33 _) rfl rfl rfl) rfl rfl rfl ?_ | refine tr_val (ov_load_blk H.get9 rfl (Try.isAgg33 _) rfl rfl rfl) rfl rfl rfl ?_
    refine tr_val (ov_len rfl rfl Try.underlying33 rfl) rfl rfl rfl ?_
    refine tr_val (ov_gtr rfl rfl rfl) rfl rfl rfl ?_
    refine tr_nil (hK9 _ _ (TrI.keep [21, 10, 18, 17, 9, 16, 8, 7, 6] ?_))
    show TrI _ _ _ _ _ [(21, _), (10, _), (18, _), (17, _), (9, _), (16, _), (8, _), (7, _), (6, _)] _ _
    first | refine ti_cond rfl (fun c21 => ?_) (fun c21 => ?_) | refine ti_condb rfl (fun c21 => ?_) (fun c21 => ?_)
    · omega
    · skip
      refine ti_skip (hK8 _ _ (TrI.keep [21, 10, 18, 17, 9, 16, 8, 7, 6] ?_))
      show TrI _ _ _ _ _ [(21, _), (10, _), (18, _), (17, _), (9, _), (16, _), (8, _), (7, _), (6, _)] _ _
      -- region 9: law.go:22
      refine ti_region rfl (fun ⟨_, _, h⟩ => h) ?_
      first | refine tr_val (ov_load_blk H.get0 rfl (Try.isAgg33 _) rfl rfl rfl) rfl rfl rfl ?_ | refine tr_val (ov_load_blk H.get1 rfl (Try.isAgg33 _) rfl rfl rfl) rfl rfl rfl ?_ | refine tr_val (ov_load_blk H.get2 rfl (Try.isAgg33 _) rfl rfl rfl) rfl rfl rfl ?_ | refine tr_val (ov_load_blk H.get3 rfl (Try.isAgg33 _) rfl rfl rfl) rfl rfl rfl ?_ | refine tr_val (ov_load_blk H.get4 rfl (Try.isAgg33 _) rfl rfl rfl) rfl rfl rfl ?_ | refine tr_val (ov_load_blk H.get5 rfl (Try.isAgg33 _) rfl rfl rfl) rfl rfl rfl ?_ | refine tr_val (ov_load_blk H.get6 rfl (Try.isAgg33 _) rfl rfl rfl) rfl rfl rfl ?_ | refine tr_val (ov_load_blk H.get7 rfl (Try.isAgg33 _) rfl rfl rfl) rfl rfl rfl ?_ | refine tr_val (ov_load_blk H.get8 rfl (Try.isAgg33 _) rfl rfl rfl) rfl rfl rfl ?_ | refine tr_val (ov_load_blk H.get9 rfl (Try.isAgg33 _) rfl rfl rfl) rfl rfl rfl ?_
      first | refine tr_val (ov_load_blkN H.get0 rfl (Try.isAgg40 _) (Try.sizeOf40 _) rfl rfl rfl) rfl rfl rfl ?_ | refine tr_val (ov_load_blkN H.get1 rfl (Try.isAgg40 _) (Try.sizeOf40 _) rfl rfl rfl) rfl rfl rfl ?_ | refine tr_val (ov_load_blkN H.get2 rfl (Try.isAgg40 _) (Try.sizeOf40 _) rfl rfl rfl) rfl rfl rfl ?_ | refine tr_val (ov_load_blkN H.get3 rfl (Try.isAgg40 _) (Try.sizeOf40 _) rfl rfl rfl) rfl rfl rfl ?_ | refine tr_val (ov_load_blkN H.get4 rfl (Try.isAgg40 _) (Try.sizeOf40 _) rfl rfl rfl) rfl rfl rfl ?_ | refine tr_val (ov_load_blkN H.get5 rfl (Try.isAgg40 _) (Try.sizeOf40 _) rfl rfl rfl) rfl rfl rfl ?_ | refine tr_val (ov_load_blkN H.get6 rfl (Try.isAgg40 _) (Try.sizeOf40 _) rfl rfl rfl) rfl rfl rfl ?_ | refine tr_val (ov_load_blkN H.get7 rfl (Try.isAgg40 _) (Try.sizeOf40 _) rfl rfl rfl) rfl rfl rfl ?_ | refine tr_val (ov_load_blkN H.get8 rfl (Try.isAgg40 _) (Try.sizeOf40 _) rfl rfl rfl) rfl rfl rfl ?_ | refine tr_val (ov_load_blkN H.get9 rfl (Try.isAgg40 _) (Try.sizeOf40 _) rfl rfl rfl) rfl rfl rfl ?_
      refine tr_buildSlice H rfl Try.underlying33 info40 rfl (fun ρ k => bs1 k rfl) (by decide) (by decide) (fill_Span_1 _ _) rfl rfl rfl ?_
      intro b4 w5 hb4 H
      refine tr_append H.get3 (rd_blk [x] H.get0 rfl lenSpan) rfl rfl rfl Try.underlying33 info40 rfl rfl (show Try.t40.bytes = 16 from rfl) rfl (by decide) lenSpan oneSpan (by simp; omega) (by simp [maxLen]; omega) rfl rfl rfl ?_
      intro A' c' w6 U; have H := H.upd3 U; clear U
      first | (refine tr_store H.get0 rfl (Try.sizeOf33 _) rfl rfl rfl rfl rfl rfl rfl ?_; intro w7 U; have H := H.upd0 U; clear U) | (refine tr_store H.get1 rfl (Try.sizeOf33 _) rfl rfl rfl rfl rfl rfl rfl ?_; intro w7 U; have H := H.upd1 U; clear U) | (refine tr_store H.get2 rfl (Try.sizeOf33 _) rfl rfl rfl rfl rfl rfl rfl ?_; intro w7 U; have H := H.upd2 U; clear U) | (refine tr_store H.get3 rfl (Try.sizeOf33 _) rfl rfl rfl rfl rfl rfl rfl ?_; intro w7 U; have H := H.upd3 U; clear U) | (refine tr_store H.get4 rfl (Try.sizeOf33 _) rfl rfl rfl rfl rfl rfl rfl ?_; intro w7 U; have H := H.upd4 U; clear U) | (refine tr_store H.get5 rfl (Try.sizeOf33 _) rfl rfl rfl rfl rfl rfl rfl ?_; intro w7 U; have H := H.upd5 U; clear U) | (refine tr_store H.get6 rfl (Try.sizeOf33 _) rfl rfl rfl rfl rfl rfl rfl ?_; intro w7 U; have H := H.upd6 U; clear U) | (refine tr_store H.get7 rfl (Try.sizeOf33 _) rfl rfl rfl rfl rfl rfl rfl ?_; intro w7 U; have H := H.upd7 U; clear U) | (refine tr_store H.get8 rfl (Try.sizeOf33 _) rfl rfl rfl rfl rfl rfl rfl ?_; intro w7 U; have H := H.upd8 U; clear U) | (refine tr_store H.get9 rfl (Try.sizeOf33 _) rfl rfl rfl rfl rfl rfl rfl ?_; intro w7 U; have H := H.upd9 U; clear U)
      try simp only [List.set_cons_zero, List.set_cons_succ, Nat.zero_add] at H
      exact tr_nil (hK _ _ _ ⟨_, _, rfl⟩ H.drop0.drop0)
  · intro m wL rsL hJL H
    obtain ⟨A, c, rfl⟩ := hJL
    have H : SH w (alm p g L).foot (objR m (.deferred (some [])) :: blk d1 2 [.int .i64 a] :: blk d2 2 [.int .i64 b] :: blk d3 34 [.pointer p] :: alm p g L :: blk b7 4 [.bool false] :: blk b6 33 [.slice none 0 0] :: [blk b9 33 [.slice A (freeV L a b).length c], vec A c 40 2 encSpan (freeV L a b)]) wL := H
    refine hK6 _ _ _ (TrC.keep [17, 9, 16, 8, 7, 6] ?_)
    show TrC _ _ _ _ [(17, _), (9, _), (16, _), (8, _), (7, _), (6, _)] _ _
    refine tr_seq (fun K10 hK10 => ?_)
    -- region 10: law.go:24
    refine tr_region ?_
    first | refine tr_val (ov_load_blk H.get0 rfl (Try.isAgg33 _) rfl rfl rfl) rfl rfl rfl ?_ | refine tr_val (ov_load_blk H.get1 rfl (Try.isAgg33 _) rfl rfl rfl) rfl rfl rfl ?_ | refine tr_val (ov_load_blk H.get2 rfl (Try.isAgg33 _) rfl rfl rfl) rfl rfl rfl ?_ | refine tr_val (ov_load_blk H.get3 rfl (Try.isAgg33 _) rfl rfl rfl) rfl rfl rfl ?_ | refine tr_val (ov_load_blk H.get4 rfl (Try.isAgg33 _) rfl rfl rfl) rfl rfl rfl ?_ | refine tr_val (ov_load_blk H.get5 rfl (Try.isAgg33 _) rfl rfl rfl) rfl rfl rfl ?_ | refine tr_val (ov_load_blk H.get6 rfl (Try.isAgg33 _) rfl rfl rfl) rfl rfl rfl ?_ | refine tr_val (ov_load_blk H.get7 rfl (Try.isAgg33 _) rfl rfl rfl) rfl rfl rfl ?_ | refine tr_val (ov_load_blk H.get8 rfl (Try.isAgg33 _) rfl rfl rfl) rfl rfl rfl ?_ | refine tr_val (ov_load_blk H.get9 rfl (Try.isAgg33 _) rfl rfl rfl) rfl rfl rfl ?_
    first | (refine tr_store H.get0 rfl (Try.sizeOf33 _) rfl rfl rfl rfl rfl rfl rfl ?_; intro w8 U; have H := H.upd0 U; clear U) | (refine tr_store H.get1 rfl (Try.sizeOf33 _) rfl rfl rfl rfl rfl rfl rfl ?_; intro w8 U; have H := H.upd1 U; clear U) | (refine tr_store H.get2 rfl (Try.sizeOf33 _) rfl rfl rfl rfl rfl rfl rfl ?_; intro w8 U; have H := H.upd2 U; clear U) | (refine tr_store H.get3 rfl (Try.sizeOf33 _) rfl rfl rfl rfl rfl rfl rfl ?_; intro w8 U; have H := H.upd3 U; clear U) | (refine tr_store H.get4 rfl (Try.sizeOf33 _) rfl rfl rfl rfl rfl rfl rfl ?_; intro w8 U; have H := H.upd4 U; clear U) | (refine tr_store H.get5 rfl (Try.sizeOf33 _) rfl rfl rfl rfl rfl rfl rfl ?_; intro w8 U; have H := H.upd5 U; clear U) | (refine tr_store H.get6 rfl (Try.sizeOf33 _) rfl rfl rfl rfl rfl rfl rfl ?_; intro w8 U; have H := H.upd6 U; clear U) | (refine tr_store H.get7 rfl (Try.sizeOf33 _) rfl rfl rfl rfl rfl rfl rfl ?_; intro w8 U; have H := H.upd7 U; clear U) | (refine tr_store H.get8 rfl (Try.sizeOf33 _) rfl rfl rfl rfl rfl rfl rfl ?_; intro w8 U; have H := H.upd8 U; clear U) | (refine tr_store H.get9 rfl (Try.sizeOf33 _) rfl rfl rfl rfl rfl rfl rfl ?_; intro w8 U; have H := H.upd9 U; clear U)
    try simp only [List.set_cons_zero, List.set_cons_succ, Nat.zero_add] at H
    first | (refine tr_store H.get0 rfl (Try.sizeOf4 _) rfl rfl rfl rfl rfl rfl rfl ?_; intro w9 U; have H := H.upd0 U; clear U) | (refine tr_store H.get1 rfl (Try.sizeOf4 _) rfl rfl rfl rfl rfl rfl rfl ?_; intro w9 U; have H := H.upd1 U; clear U) | (refine tr_store H.get2 rfl (Try.sizeOf4 _) rfl rfl rfl rfl rfl rfl rfl ?_; intro w9 U; have H := H.upd2 U; clear U) | (refine tr_store H.get3 rfl (Try.sizeOf4 _) rfl rfl rfl rfl rfl rfl rfl ?_; intro w9 U; have H := H.upd3 U; clear U) | (refine tr_store H.get4 rfl (Try.sizeOf4 _) rfl rfl rfl rfl rfl rfl rfl ?_; intro w9 U; have H := H.upd4 U; clear U) | (refine tr_store H.get5 rfl (Try.sizeOf4 _) rfl rfl rfl rfl rfl rfl rfl ?_; intro w9 U; have H := H.upd5 U; clear U) | (refine tr_store H.get6 rfl (Try.sizeOf4 _) rfl rfl rfl rfl rfl rfl rfl ?_; intro w9 U; have H := H.upd6 U; clear U) | (refine tr_store H.get7 rfl (Try.sizeOf4 _) rfl rfl rfl rfl rfl rfl rfl ?_; intro w9 U; have H := H.upd7 U; clear U) | (refine tr_store H.get8 rfl (Try.sizeOf4 _) rfl rfl rfl rfl rfl rfl rfl ?_; intro w9 U; have H := H.upd8 U; clear U) | (refine tr_store H.get9 rfl (Try.sizeOf4 _) rfl rfl rfl rfl rfl rfl rfl ?_; intro w9 U; have H := H.upd9 U; clear U)
    try simp only [List.set_cons_zero, List.set_cons_succ, Nat.zero_add] at H
    refine tr_nil (hK10 _ _ (TrC.keep [17, 9, 16, 8, 7, 6] ?_))
    show TrC _ _ _ _ [(17, _), (9, _), (16, _), (8, _), (7, _), (6, _)] _ _
    refine tr_ret (post_m2m H (.inr rfl) rfl (fun wR H => ⟨(by first | exact ⟨_, rfl, res_blk1 H.get0 (Try.isAgg33 _) rfl rfl⟩ | exact ⟨_, rfl, res_blk1 H.get1 (Try.isAgg33 _) rfl rfl⟩ | exact ⟨_, rfl, res_blk1 H.get2 (Try.isAgg33 _) rfl rfl⟩ | exact ⟨_, rfl, res_blk1 H.get3 (Try.isAgg33 _) rfl rfl⟩ | exact ⟨_, rfl, res_blk1 H.get4 (Try.isAgg33 _) rfl rfl⟩ | exact ⟨_, rfl, res_blk1 H.get5 (Try.isAgg33 _) rfl rfl⟩ | exact ⟨_, rfl, res_blk1 H.get6 (Try.isAgg33 _) rfl rfl⟩ | exact ⟨_, rfl, res_blk1 H.get7 (Try.isAgg33 _) rfl rfl⟩ | exact ⟨_, rfl, res_blk1 H.get8 (Try.isAgg33 _) rfl rfl⟩ | exact ⟨_, rfl, res_blk1 H.get9 (Try.isAgg33 _) rfl rfl⟩), (by first | exact ⟨_, rfl, res_blk1 H.get0 (Try.isAgg4 _) rfl rfl⟩ | exact ⟨_, rfl, res_blk1 H.get1 (Try.isAgg4 _) rfl rfl⟩ | exact ⟨_, rfl, res_blk1 H.get2 (Try.isAgg4 _) rfl rfl⟩ | exact ⟨_, rfl, res_blk1 H.get3 (Try.isAgg4 _) rfl rfl⟩ | exact ⟨_, rfl, res_blk1 H.get4 (Try.isAgg4 _) rfl rfl⟩ | exact ⟨_, rfl, res_blk1 H.get5 (Try.isAgg4 _) rfl rfl⟩ | exact ⟨_, rfl, res_blk1 H.get6 (Try.isAgg4 _) rfl rfl⟩ | exact ⟨_, rfl, res_blk1 H.get7 (Try.isAgg4 _) rfl rfl⟩ | exact ⟨_, rfl, res_blk1 H.get8 (Try.isAgg4 _) rfl rfl⟩ | exact ⟨_, rfl, res_blk1 H.get9 (Try.isAgg4 _) rfl rfl⟩), ?_⟩))
    exact ⟨A, c, rfl, (H.drop0.drop0.drop0.drop1.drop1.drop1).top1⟩

/-! curfew/curfewlaw09.AlmanacFree$1 -/
set_option maxRecDepth 20000 in
theorem AF1_c (x y m k : Int) (b8 b9 : Nat) (w : World) (hx : 0 ≤ x ∧ x < y ∧ y ≤ 1125899906842624) (hm : -128 ≤ m ∧ m ≤ 127) (hk : -128 ≤ k ∧ k ≤ 127) (h8 : (blk b8 48 [.int .i8 m]).holds w) (h9 : (blk b9 48 [.int .i8 k]).holds w) : Does Try.prog 28 #[.int .i64 x, .int .i64 y, .pointer (some ⟨b8, 0, none⟩), .pointer (some ⟨b9, 0, none⟩)] w (fun v w' => v = .int .i64 (lostF m k (x, y)) ∧ SH w noBlocks [] w') := by
  refine does_enter4 Try.func28 rfl Try.ntmps28 rfl ?_
  have H := SH.start w noBlocks
  refine tr_seq (fun K1 hK1 => ?_)
  -- region 0: law.go:58
  refine tr_region ?_
  refine tr_val (ov_assign rfl rfl) rfl rfl rfl ?_
  refine tr_nil (hK1 _ _ (TrC.keep [6, 0, 1, 2, 3] ?_))
  show TrC _ _ _ _ [(6, _), (0, _), (1, _), (2, _), (3, _)] _ _
  refine tr_seq (fun K2 hK2 => ?_)
  -- region 1: law.go:58
  refine tr_region ?_
  refine tr_val (ov_move rfl rfl) rfl rfl rfl ?_
  refine tr_val (ov_move rfl rfl) rfl rfl rfl ?_
  refine tr_val (ov_sub rfl rfl rfl (w64 (by omega))) rfl rfl rfl ?_
  refine tr_val (ov_load_blk (H.blk0 h8) rfl (Try.isAgg48 _) rfl rfl rfl) rfl rfl rfl ?_
  refine tr_val (ov_conv rfl Try.underlying48 Try.underlying2 rfl (w64 (by omega))) rfl rfl rfl ?_
  refine tr_val (ov_mul rfl rfl rfl rfl) rfl rfl rfl ?_
  refine tr_val (ov_load_blk (H.blk0 h9) rfl (Try.isAgg48 _) rfl rfl rfl) rfl rfl rfl ?_
  refine tr_val (ov_conv rfl Try.underlying48 Try.underlying2 rfl (w64 (by omega))) rfl rfl rfl ?_
  refine tr_val (ov_add rfl rfl rfl rfl) rfl rfl rfl ?_
  refine tr_val (ov_assign rfl rfl) rfl rfl rfl ?_
  refine tr_nil (hK2 _ _ (TrC.keep [6] ?_))
  show TrC _ _ _ _ [(6, _)] _ _
  refine tr_ret (post_ret1 (.inr rfl) rfl rfl ?_)
  exact ⟨rfl, H⟩

/-! curfew/curfewlaw09.AlmanacAll$1 -/
set_option maxRecDepth 20000 in
theorem AA1_c (x y : Int) (w : World) (hx : 0 ≤ x ∧ x < y ∧ y ≤ 1125899906842624) : Does Try.prog 31 #[.int .i64 x, .int .i64 y] w (fun v w' => v = .int .i64 (y - x) ∧ SH w noBlocks [] w') := by
  refine does_enter2 Try.func31 rfl Try.ntmps31 rfl ?_
  have H := SH.start w noBlocks
  refine tr_seq (fun K1 hK1 => ?_)
  -- region 0: law.go:72
  refine tr_region ?_
  refine tr_val (ov_assign rfl rfl) rfl rfl rfl ?_
  refine tr_nil (hK1 _ _ (TrC.keep [4, 0, 1] ?_))
  show TrC _ _ _ _ [(4, _), (0, _), (1, _)] _ _
  refine tr_seq (fun K2 hK2 => ?_)
  -- region 1: law.go:72
  refine tr_region ?_
  refine tr_val (ov_move rfl rfl) rfl rfl rfl ?_
  refine tr_val (ov_move rfl rfl) rfl rfl rfl ?_
  refine tr_val (ov_sub rfl rfl rfl (w64 (by omega))) rfl rfl rfl ?_
  refine tr_val (ov_assign rfl rfl) rfl rfl rfl ?_
  refine tr_nil (hK2 _ _ (TrC.keep [4] ?_))
  show TrC _ _ _ _ [(4, _)] _ _
  refine tr_ret (post_ret1 (.inr rfl) rfl rfl ?_)
  exact ⟨rfl, H⟩

/-! curfew/curfewlaw09.AlmanacNobody$1 -/
set_option maxRecDepth 20000 in
theorem AN1_c (x y : Int) (w : World) : Does Try.prog 33 #[.int .i64 x, .int .i64 y] w (fun v w' => v = .int .i64 1 ∧ SH w noBlocks [] w') := by
  refine does_enter2 Try.func33 rfl Try.ntmps33 rfl ?_
  have H := SH.start w noBlocks
  refine tr_seq (fun K1 hK1 => ?_)
  -- region 0: law.go:91
  refine tr_region ?_
  refine tr_val (ov_assign rfl rfl) rfl rfl rfl ?_
  refine tr_nil (hK1 _ _ (TrC.keep [4] ?_))
  show TrC _ _ _ _ [(4, _)] _ _
  refine tr_seq (fun K2 hK2 => ?_)
  -- region 1: law.go:91
  refine tr_region ?_
  refine tr_val (ov_assign rfl rfl) rfl rfl rfl ?_
  refine tr_nil (hK2 _ _ (TrC.keep [4] ?_))
  show TrC _ _ _ _ [(4, _)] _ _
  refine tr_ret (post_ret1 (.inr rfl) rfl rfl ?_)
  exact ⟨rfl, H⟩

theorem liveA0 : rowV [(10, 20)] = 0 := by decide
theorem liveA1 : freeV [(10, 20)] 5 30 = [(5, 10), (20, 30)] := by decide

/-! curfew/curfewlaw09.lives -/
set_option maxRecDepth 20000 in
theorem lives09_c (w : World) : Does Try.prog 17 #[] w (fun v w' => v = .bool true ∧ SH w noBlocks [] w') := by
  refine does_enter0 Try.func17 rfl Try.ntmps17 rfl ?_
  have H := SH.start w noBlocks
  refine tr_seq (fun K1 hK1 => ?_)
  -- region 0: law.go:28
  refine tr_region ?_
  refine tr_val (ov_assign rfl rfl) rfl rfl rfl ?_
  refine tr_nil (hK1 _ _ (TrC.keep [0] ?_))
  show TrC _ _ _ _ [(0, _)] _ _
  refine tr_seq (fun K2 hK2 => ?_)
  -- region 1: law.go:29
  refine tr_region ?_
  refine tr_val (ov_build rfl (fun ρ k => bs2 k rfl rfl) (bld40_0_1 _ _ _)) rfl rfl rfl ?_
  refine tr_buildSlice H rfl Try.underlying33 info40 rfl (fun ρ k => bs1 k rfl) (by decide) (by decide) (fill_Span_1 _ _) rfl rfl rfl ?_
  intro b1 w1 hb1 H
  refine tr_call (almNew_c _ _ [(10, 20)] _ (rd_blk [(10, 20)] H.get0 rfl lenSpan) (by decide)) rfl rfl rfl Try.call18 rfl rfl rfl ?_
  rintro _ w2 ⟨p, g, rfl, hp0, hp1, HC⟩
  have H := H.call0r HC
  rw [if_pos liveA0] at H
  rw [liveA0]
  refine tr_val (ov_move rfl rfl) rfl rfl rfl ?_
  refine tr_val (ov_extract rfl rfl rfl) rfl rfl rfl ?_
  refine tr_val (ov_extract rfl rfl rfl) rfl rfl rfl ?_
  refine tr_val (ov_assign rfl rfl) rfl rfl rfl ?_
  refine tr_val (ov_assign rfl rfl) rfl rfl rfl ?_
  refine tr_nil (hK2 _ _ (TrC.keep [2, 1, 0] ?_))
  show TrC _ _ _ _ [(2, _), (1, _), (0, _)] _ _
  refine tr_seq (fun K3 hK3 => ?_)
  -- region 2: law.go:30
  refine tr_region ?_
  refine tr_val (ov_move rfl rfl) rfl rfl rfl ?_
  refine tr_call (free_c p g [(10, 20)] 5 30 _ H.get0 (by decide) (by decide)) rfl rfl rfl Try.call26 rfl rfl rfl ?_
  rintro _ w3 ⟨A', c', rfl, HC⟩
  have H := H.call1e HC
  refine tr_val (ov_move rfl rfl) rfl rfl rfl ?_
  refine tr_val (ov_extract rfl rfl rfl) rfl rfl rfl ?_
  refine tr_val (ov_extract rfl rfl rfl) rfl rfl rfl ?_
  refine tr_val (ov_assign rfl rfl) rfl rfl rfl ?_
  refine tr_val (ov_assign rfl rfl) rfl rfl rfl ?_
  refine tr_nil (hK3 _ _ (TrC.keep [4, 3, 2, 1, 0] ?_))
  show TrC _ _ _ _ [(4, _), (3, _), (2, _), (1, _), (0, _)] _ _
  refine tr_seq (fun K4 hK4 => ?_)
  -- region 3: law.go:31
  refine tr_region ?_
  refine tr_val (ov_move rfl rfl) rfl rfl rfl ?_
  refine tr_val (ov_eql rfl rfl rfl) rfl rfl rfl ?_
  refine tr_val (ov_move rfl rfl) rfl rfl rfl ?_
  first | refine tr_split (t := 18) rfl (fun s18 => ?_) (fun s18 => ?_) | refine tr_splitb (t := 18) rfl (fun s18 => ?_) (fun s18 => ?_)
  · skip
    refine tr_val (ov_move rfl rfl) rfl rfl rfl ?_
    refine tr_val (ov_pick (vb := undef) rfl rfl rfl rfl) rfl rfl rfl ?_
    refine tr_val (ov_move rfl rfl) rfl rfl rfl ?_
    first | refine tr_split (t := 21) rfl (fun s21 => ?_) (fun s21 => ?_) | refine tr_splitb (t := 21) rfl (fun s21 => ?_) (fun s21 => ?_)
    · skip
      refine tr_val (ov_move rfl rfl) rfl rfl rfl ?_
      refine tr_val (ov_build rfl (fun ρ k => bs2 k rfl rfl) (bld40_0_1 _ _ _)) rfl rfl rfl ?_
      refine tr_val (ov_build rfl (fun ρ k => bs2 k rfl rfl) (bld40_0_1 _ _ _)) rfl rfl rfl ?_
      refine tr_buildSlice H rfl Try.underlying33 info40 rfl (fun ρ k => bs2 k rfl rfl) (by decide) (by decide) (fill_Span_2 _ _ _ _) rfl rfl rfl ?_
      intro b2 w4 hb2 H
      refine tr_call (SameR_c A' c' _ _ (vec_rd H.get1 lenSpan (by decide)) (by rw [liveA1]; decide) _ _ [(5, 10), (20, 30)] (rd_blk [(5, 10), (20, 30)] H.get0 rfl lenSpan) (by decide)) rfl rfl rfl Try.call24 rfl rfl rfl ?_
      rintro _ w5 ⟨rfl, HC⟩
      have H := H.call0n HC
      refine tr_val (ov_pick (vb := undef) rfl rfl rfl rfl) rfl rfl rfl ?_
      refine tr_val (ov_move rfl rfl) rfl rfl rfl ?_
      first | refine tr_split (t := 28) rfl (fun s28 => ?_) (fun s28 => ?_) | refine tr_splitb (t := 28) rfl (fun s28 => ?_) (fun s28 => ?_)
      · skip
        refine tr_val (ov_move rfl rfl) rfl rfl rfl ?_
        refine tr_call (Closed_c p [(10, 20)] _ (alm_read H.get2) 10 (by decide)) rfl rfl rfl Try.call22 rfl rfl rfl ?_
        rintro _ w6 ⟨rfl, HC⟩
        have H := H.call0n HC
        refine tr_val (ov_pick (vb := undef) rfl rfl rfl rfl) rfl rfl rfl ?_
        refine tr_val (ov_move rfl rfl) rfl rfl rfl ?_
        first | refine tr_split (t := 32) rfl (fun s32 => ?_) (fun s32 => ?_) | refine tr_splitb (t := 32) rfl (fun s32 => ?_) (fun s32 => ?_)
        · skip
          refine tr_val (ov_move rfl rfl) rfl rfl rfl ?_
          refine tr_call (Closed_c p [(10, 20)] _ (alm_read H.get2) 20 (by decide)) rfl rfl rfl Try.call22 rfl rfl rfl ?_
          rintro _ w7 ⟨rfl, HC⟩
          have H := H.call0n HC
          first | refine tr_val (ov_not rfl rfl) rfl rfl rfl ?_ | refine tr_val (ov_notb rfl rfl) rfl rfl rfl ?_
          refine tr_val (ov_pick (vb := undef) rfl rfl rfl rfl) rfl rfl rfl ?_
          refine tr_val (ov_assign rfl rfl) rfl rfl rfl ?_
          refine tr_nil (hK4 _ _ (TrC.keep [0, 1] ?_))
          show TrC _ _ _ _ [(0, _), (1, _)] _ _
          refine tr_ret (post_ret1 (.inr rfl) rfl rfl ?_)
          exact ⟨congrArg Value.bool (by decide), H.drop0.drop0.drop0.drop0⟩
        · exact absurd s32 (by decide)
      · exact absurd liveA1 s28
    · cases s21
  · exact absurd rfl s18

/-! curfew/curfewlaw09.AlmanacTells -/
set_option maxRecDepth 20000 in
theorem AlmanacTells_c (A : Option Addr) (c : Nat) (L : List Sp) (w : World) (hR : Rd w A 2 (L.map encSpan)) (x : Int) : Does Try.prog 4 #[.slice A L.length c, .int .i64 x] w (fun v w' => v = .bool true ∧ SH w noBlocks [] w') := by
  refine does_enter2 Try.func4 rfl Try.ntmps4 rfl ?_
  have H := SH.start w noBlocks
  refine tr_seq (fun K1 hK1 => ?_)
  -- region 0: law.go:35
  refine tr_region ?_
  refine tr_val (ov_assign rfl rfl) rfl rfl rfl ?_
  refine tr_nil (hK1 _ _ (TrC.keep [4, 0, 1] ?_))
  show TrC _ _ _ _ [(4, _), (0, _), (1, _)] _ _
  refine tr_seq (fun K2 hK2 => ?_)
  refine tr_seq (fun K3 hK3 => ?_)
  -- region 1: law.go:36
  refine tr_region ?_
  refine tr_val (ov_move rfl rfl) rfl rfl rfl ?_
  refine tr_val (ov_len rfl rfl Try.underlying33 rfl) rfl rfl rfl ?_
  refine tr_val (ov_gtr rfl rfl rfl) rfl rfl rfl ?_
  refine tr_nil (hK3 _ _ (TrC.keep [14, 4, 0, 1] ?_))
  show TrC _ _ _ _ [(14, _), (4, _), (0, _), (1, _)] _ _
  first | refine tr_cond rfl (fun c14 => ?_) (fun c14 => ?_) | refine tr_condb rfl (fun c14 => ?_) (fun c14 => ?_)
  · skip
    refine tr_seq (fun K4 hK4 => ?_)
    -- region 2: law.go:37
    refine tr_region ?_
    refine tr_call (lives09_c _) rfl rfl rfl Try.call17 rfl rfl rfl ?_
    rintro _ w1 ⟨rfl, HC⟩
    have H := H.call0n HC
    refine tr_val (ov_assign rfl rfl) rfl rfl rfl ?_
    refine tr_nil (hK4 _ _ (TrC.keep [4, 14, 0, 1] ?_))
    show TrC _ _ _ _ [(4, _), (14, _), (0, _), (1, _)] _ _
    refine tr_ret (post_ret1 (.inr rfl) rfl rfl ?_)
    exact ⟨rfl, H⟩
  · skip
    refine tr_skip (hK2 _ _ (TrC.keep [14, 4, 0, 1] ?_))
    show TrC _ _ _ _ [(14, _), (4, _), (0, _), (1, _)] _ _
    refine tr_seq (fun K5 hK5 => ?_)
    -- region 3: law.go:39
    have hL : L.length ≤ 4294967296 := by omega
    refine tr_region ?_
    refine tr_val (ov_move rfl rfl) rfl rfl rfl ?_
    refine tr_call (almNew_c A c L _ (H.rd0 hR) (by omega)) rfl rfl rfl Try.call18 rfl rfl rfl ?_
    rintro _ w2 ⟨p, g, rfl, hp0, hp1, HC⟩
    have H := H.call0r HC
    refine tr_val (ov_move rfl rfl) rfl rfl rfl ?_
    refine tr_val (ov_extract rfl rfl rfl) rfl rfl rfl ?_
    refine tr_val (ov_extract rfl rfl rfl) rfl rfl rfl ?_
    refine tr_val (ov_assign rfl rfl) rfl rfl rfl ?_
    refine tr_val (ov_assign rfl rfl) rfl rfl rfl ?_
    refine tr_nil (hK5 _ _ (TrC.keep [6, 5, 14, 4, 0, 1] ?_))
    show TrC _ _ _ _ [(6, _), (5, _), (14, _), (4, _), (0, _), (1, _)] _ _
    refine tr_seq (fun K6 hK6 => ?_)
    refine tr_seq (fun K7 hK7 => ?_)
    -- region 4: law.go:40
    refine tr_region ?_
    refine tr_val (ov_move rfl rfl) rfl rfl rfl ?_
    refine tr_call (RowR_c A c L _ (H.rd0 hR) hL) rfl rfl rfl Try.call19 rfl rfl rfl ?_
    rintro _ w3 ⟨rfl, HC⟩
    have H := H.call0n HC
    refine tr_val (ov_assign rfl rfl) rfl rfl rfl ?_
    refine tr_nil (hK7 _ _ (TrC.keep [7, 6, 5, 14, 4, 0, 1] ?_))
    show TrC _ _ _ _ [(7, _), (6, _), (5, _), (14, _), (4, _), (0, _), (1, _)] _ _
    refine tr_seq (fun K8 hK8 => ?_)
    -- region 5: law.go:40
    refine tr_region ?_
    refine tr_val (ov_move rfl rfl) rfl rfl rfl ?_
    refine tr_val (ov_neq rfl rfl rfl) rfl rfl rfl ?_
    refine tr_nil (hK8 _ _ (TrC.keep [24, 7, 6, 5, 14, 4, 0, 1] ?_))
    show TrC _ _ _ _ [(24, _), (7, _), (6, _), (5, _), (14, _), (4, _), (0, _), (1, _)] _ _
    first | refine tr_cond rfl (fun c24 => ?_) (fun c24 => ?_) | refine tr_condb rfl (fun c24 => ?_) (fun c24 => ?_)
    · skip
      refine tr_seq (fun K9 hK9 => ?_)
      -- region 6: law.go:41
      refine tr_region ?_
      refine tr_val (ov_move rfl rfl) rfl rfl rfl ?_
      refine tr_val (ov_eql_nil rfl Try.underlying34 rfl rfl) rfl rfl rfl ?_
      refine tr_val (ov_move rfl rfl) rfl rfl rfl ?_
      first | refine tr_split (t := 27) rfl (fun s27 => ?_) (fun s27 => ?_) | refine tr_splitb (t := 27) rfl (fun s27 => ?_) (fun s27 => ?_)
      · skip
        refine tr_val (ov_move rfl rfl) rfl rfl rfl ?_
        refine tr_val (ov_move rfl rfl) rfl rfl rfl ?_
        refine tr_val (ov_eql rfl rfl rfl) rfl rfl rfl ?_
        refine tr_val (ov_pick (vb := undef) rfl rfl rfl rfl) rfl rfl rfl ?_
        refine tr_val (ov_move rfl rfl) rfl rfl rfl ?_
        first | refine tr_split (t := 32) rfl (fun s32 => ?_) (fun s32 => ?_) | refine tr_splitb (t := 32) rfl (fun s32 => ?_) (fun s32 => ?_)
        · skip
          refine tr_call (lives09_c _) rfl rfl rfl Try.call17 rfl rfl rfl ?_
          rintro _ w4 ⟨rfl, HC⟩
          have H := H.call0n HC
          refine tr_val (ov_pick (vb := undef) rfl rfl rfl rfl) rfl rfl rfl ?_
          refine tr_val (ov_assign rfl rfl) rfl rfl rfl ?_
          refine tr_nil (hK9 _ _ (TrC.keep [4, 24, 7, 6, 5, 14, 0, 1] ?_))
          show TrC _ _ _ _ [(4, _), (24, _), (7, _), (6, _), (5, _), (14, _), (0, _), (1, _)] _ _
          refine tr_ret (post_ret1 (.inr rfl) rfl rfl ?_)
          exact ⟨rfl, H.drop0⟩
        · exact absurd rfl s32
      · rw [hp0 c24] at s27; cases s27
    · skip
      refine tr_skip (hK6 _ _ (TrC.keep [24, 7, 6, 5, 14, 4, 0, 1] ?_))
      show TrC _ _ _ _ [(24, _), (7, _), (6, _), (5, _), (14, _), (4, _), (0, _), (1, _)] _ _
      refine tr_seq (fun K10 hK10 => ?_)
      -- region 7: law.go:43
      have h0 : rowV L = 0 := by omega
      rw [if_pos h0] at H
      refine tr_region ?_
      refine tr_val (ov_move rfl rfl) rfl rfl rfl ?_
      refine tr_val (ov_move rfl rfl) rfl rfl rfl ?_
      refine tr_call (Next_c p L _ (alm_read H.get0) x hL) rfl rfl rfl Try.call20 rfl rfl rfl ?_
      rintro _ w5 ⟨rfl, HC⟩
      have H := H.call0n HC
      refine tr_val (ov_move rfl rfl) rfl rfl rfl ?_
      refine tr_val (ov_extract rfl rfl rfl) rfl rfl rfl ?_
      refine tr_val (ov_extract rfl rfl rfl) rfl rfl rfl ?_
      refine tr_alloc H rfl (Try.zeroValue40 _) rfl rfl rfl rfl ?_
      intro b1 w6 hb1 H
      first | (refine tr_storeW H.get0 rfl (Try.sizeOf40 _) rfl rfl rfl rfl rfl rfl rfl rfl ?_; intro w7 U; have H := H.upd0 U; clear U) | (refine tr_storeW H.get1 rfl (Try.sizeOf40 _) rfl rfl rfl rfl rfl rfl rfl rfl ?_; intro w7 U; have H := H.upd1 U; clear U) | (refine tr_storeW H.get2 rfl (Try.sizeOf40 _) rfl rfl rfl rfl rfl rfl rfl rfl ?_; intro w7 U; have H := H.upd2 U; clear U) | (refine tr_storeW H.get3 rfl (Try.sizeOf40 _) rfl rfl rfl rfl rfl rfl rfl rfl ?_; intro w7 U; have H := H.upd3 U; clear U) | (refine tr_storeW H.get4 rfl (Try.sizeOf40 _) rfl rfl rfl rfl rfl rfl rfl rfl ?_; intro w7 U; have H := H.upd4 U; clear U) | (refine tr_storeW H.get5 rfl (Try.sizeOf40 _) rfl rfl rfl rfl rfl rfl rfl rfl ?_; intro w7 U; have H := H.upd5 U; clear U)
      refine tr_val (ov_assign rfl rfl) rfl rfl rfl ?_
      refine tr_nil (hK10 _ _ (TrC.keep [9, 8, 24, 7, 6, 5, 14, 4, 0, 1] ?_))
      show TrC _ _ _ _ [(9, _), (8, _), (24, _), (7, _), (6, _), (5, _), (14, _), (4, _), (0, _), (1, _)] _ _
      refine tr_seq (fun K11 hK11 => ?_)
      -- region 8: law.go:44
      refine tr_region ?_
      refine tr_val (ov_move rfl rfl) rfl rfl rfl ?_
      refine tr_val (ov_move rfl rfl) rfl rfl rfl ?_
      refine tr_call (NextR_c A c L _ (H.rd0 hR) hL x) rfl rfl rfl Try.call21 rfl rfl rfl ?_
      rintro _ w8 ⟨rfl, HC⟩
      have H := H.call0n HC
      refine tr_val (ov_move rfl rfl) rfl rfl rfl ?_
      refine tr_val (ov_extract rfl rfl rfl) rfl rfl rfl ?_
      refine tr_val (ov_extract rfl rfl rfl) rfl rfl rfl ?_
      refine tr_alloc H rfl (Try.zeroValue40 _) rfl rfl rfl rfl ?_
      intro b2 w9 hb2 H
      first | (refine tr_storeW H.get0 rfl (Try.sizeOf40 _) rfl rfl rfl rfl rfl rfl rfl rfl ?_; intro w10 U; have H := H.upd0 U; clear U) | (refine tr_storeW H.get1 rfl (Try.sizeOf40 _) rfl rfl rfl rfl rfl rfl rfl rfl ?_; intro w10 U; have H := H.upd1 U; clear U) | (refine tr_storeW H.get2 rfl (Try.sizeOf40 _) rfl rfl rfl rfl rfl rfl rfl rfl ?_; intro w10 U; have H := H.upd2 U; clear U) | (refine tr_storeW H.get3 rfl (Try.sizeOf40 _) rfl rfl rfl rfl rfl rfl rfl rfl ?_; intro w10 U; have H := H.upd3 U; clear U) | (refine tr_storeW H.get4 rfl (Try.sizeOf40 _) rfl rfl rfl rfl rfl rfl rfl rfl ?_; intro w10 U; have H := H.upd4 U; clear U) | (refine tr_storeW H.get5 rfl (Try.sizeOf40 _) rfl rfl rfl rfl rfl rfl rfl rfl ?_; intro w10 U; have H := H.upd5 U; clear U)
      refine tr_val (ov_assign rfl rfl) rfl rfl rfl ?_
      refine tr_nil (hK11 _ _ (TrC.keep [11, 10, 9, 8, 24, 7, 6, 5, 14, 4, 0, 1] ?_))
      show TrC _ _ _ _ [(11, _), (10, _), (9, _), (8, _), (24, _), (7, _), (6, _), (5, _), (14, _), (4, _), (0, _), (1, _)] _ _
      refine tr_seq (fun K12 hK12 => ?_)
      -- region 9: law.go:45
      refine tr_region ?_
      refine tr_val (ov_move rfl rfl) rfl rfl rfl ?_
      refine tr_val (ov_eql rfl rfl rfl) rfl rfl rfl ?_
      refine tr_val (ov_move rfl rfl) rfl rfl rfl ?_
      first | refine tr_split (t := 49) rfl (fun s49 => ?_) (fun s49 => ?_) | refine tr_splitb (t := 49) rfl (fun s49 => ?_) (fun s49 => ?_)
      · skip
        refine tr_val (ov_move rfl rfl) rfl rfl rfl ?_
        refine tr_val (ov_move rfl rfl) rfl rfl rfl ?_
        refine tr_call (Closed_c p L _ (alm_read H.get2) x hL) rfl rfl rfl Try.call22 rfl rfl rfl ?_
        rintro _ w11 ⟨rfl, HC⟩
        have H := H.call0n HC
        refine tr_val (ov_move rfl rfl) rfl rfl rfl ?_
        refine tr_val (ov_move rfl rfl) rfl rfl rfl ?_
        refine tr_call (HasR_c A c L _ (H.rd0 hR) hL x) rfl rfl rfl Try.call23 rfl rfl rfl ?_
        rintro _ w12 ⟨rfl, HC⟩
        have H := H.call0n HC
        refine tr_val (ov_eqlb rfl Try.underlying4 rfl rfl) rfl rfl rfl ?_
        refine tr_val (ov_pick (vb := undef) rfl rfl rfl rfl) rfl rfl rfl ?_
        refine tr_val (ov_move rfl rfl) rfl rfl rfl ?_
        first | refine tr_split (t := 58) rfl (fun s58 => ?_) (fun s58 => ?_) | refine tr_splitb (t := 58) rfl (fun s58 => ?_) (fun s58 => ?_)
        · skip
          first | refine tr_val (ov_load_blkN H.get0 rfl (Try.isAgg40 _) (Try.sizeOf40 _) rfl rfl rfl) rfl rfl rfl ?_ | refine tr_val (ov_load_blkN H.get1 rfl (Try.isAgg40 _) (Try.sizeOf40 _) rfl rfl rfl) rfl rfl rfl ?_ | refine tr_val (ov_load_blkN H.get2 rfl (Try.isAgg40 _) (Try.sizeOf40 _) rfl rfl rfl) rfl rfl rfl ?_ | refine tr_val (ov_load_blkN H.get3 rfl (Try.isAgg40 _) (Try.sizeOf40 _) rfl rfl rfl) rfl rfl rfl ?_ | refine tr_val (ov_load_blkN H.get4 rfl (Try.isAgg40 _) (Try.sizeOf40 _) rfl rfl rfl) rfl rfl rfl ?_ | refine tr_val (ov_load_blkN H.get5 rfl (Try.isAgg40 _) (Try.sizeOf40 _) rfl rfl rfl) rfl rfl rfl ?_
          first | refine tr_val (ov_load_blkN H.get0 rfl (Try.isAgg40 _) (Try.sizeOf40 _) rfl rfl rfl) rfl rfl rfl ?_ | refine tr_val (ov_load_blkN H.get1 rfl (Try.isAgg40 _) (Try.sizeOf40 _) rfl rfl rfl) rfl rfl rfl ?_ | refine tr_val (ov_load_blkN H.get2 rfl (Try.isAgg40 _) (Try.sizeOf40 _) rfl rfl rfl) rfl rfl rfl ?_ | refine tr_val (ov_load_blkN H.get3 rfl (Try.isAgg40 _) (Try.sizeOf40 _) rfl rfl rfl) rfl rfl rfl ?_ | refine tr_val (ov_load_blkN H.get4 rfl (Try.isAgg40 _) (Try.sizeOf40 _) rfl rfl rfl) rfl rfl rfl ?_ | refine tr_val (ov_load_blkN H.get5 rfl (Try.isAgg40 _) (Try.sizeOf40 _) rfl rfl rfl) rfl rfl rfl ?_
          refine tr_val (ov_eqSp rfl rfl rfl) rfl rfl rfl ?_
          refine tr_val (ov_pick (vb := undef) rfl rfl rfl rfl) rfl rfl rfl ?_
          refine tr_val (ov_move rfl rfl) rfl rfl rfl ?_
          first | refine tr_split (t := 63) rfl (fun s63 => ?_) (fun s63 => ?_) | refine tr_splitb (t := 63) rfl (fun s63 => ?_) (fun s63 => ?_)
          · skip
            refine tr_val (ov_move rfl rfl) rfl rfl rfl ?_
            refine tr_val (ov_move rfl rfl) rfl rfl rfl ?_
            refine tr_val (ov_eqlb rfl Try.underlying4 rfl rfl) rfl rfl rfl ?_
            refine tr_val (ov_pick (vb := undef) rfl rfl rfl rfl) rfl rfl rfl ?_
            refine tr_val (ov_move rfl rfl) rfl rfl rfl ?_
            first | refine tr_split (t := 68) rfl (fun s68 => ?_) (fun s68 => ?_) | refine tr_splitb (t := 68) rfl (fun s68 => ?_) (fun s68 => ?_)
            · skip
              refine tr_val (ov_move rfl rfl) rfl rfl rfl ?_
              refine tr_call (almRow_c p L _ (alm_read H.get2) hL) rfl rfl rfl Try.call25 rfl rfl rfl ?_
              rintro _ w13 ⟨A5, c5, rfl, HC⟩
              have H := H.call0r HC
              refine tr_val (ov_move rfl rfl) rfl rfl rfl ?_
              refine tr_call (SameR_c A5 c5 L _ (vec_rd H.get0 lenSpan (by decide)) hL A c L (H.rd0 hR) hL) rfl rfl rfl Try.call24 rfl rfl rfl ?_
              rintro _ w14 ⟨rfl, HC⟩
              have H := H.call0n HC
              refine tr_val (ov_pick (vb := undef) rfl rfl rfl rfl) rfl rfl rfl ?_
              refine tr_val (ov_move rfl rfl) rfl rfl rfl ?_
              first | refine tr_split (t := 74) rfl (fun s74 => ?_) (fun s74 => ?_) | refine tr_splitb (t := 74) rfl (fun s74 => ?_) (fun s74 => ?_)
              · skip
                refine tr_call (lives09_c _) rfl rfl rfl Try.call17 rfl rfl rfl ?_
                rintro _ w15 ⟨rfl, HC⟩
                have H := H.call0n HC
                refine tr_val (ov_pick (vb := undef) rfl rfl rfl rfl) rfl rfl rfl ?_
                refine tr_val (ov_assign rfl rfl) rfl rfl rfl ?_
                refine tr_nil (hK12 _ _ (TrC.keep [4, 10, 8, 24, 7, 6, 5, 14, 0, 1] ?_))
                show TrC _ _ _ _ [(4, _), (10, _), (8, _), (24, _), (7, _), (6, _), (5, _), (14, _), (0, _), (1, _)] _ _
                refine tr_ret (post_ret1 (.inr rfl) rfl rfl ?_)
                exact ⟨rfl, H.drop0.drop0.drop0.drop0⟩
              · exact absurd rfl s74
            · simp at s68
          · exact absurd rfl s63
        · rw [closed_has h0] at s58; simp at s58
      · exact absurd h0 s49

/-! curfew/curfewlaw09.AlmanacFree -/
set_option maxRecDepth 20000 in
theorem AlmanacFree_c (A : Option Addr) (c : Nat) (L : List Sp) (w : World) (hR : Rd w A 2 (L.map encSpan)) (a b m k : Int) (hm : -128 ≤ m ∧ m ≤ 127) (hk : -128 ≤ k ∧ k ≤ 127) : Does Try.prog 5 #[.slice A L.length c, .int .i64 a, .int .i64 b, .int .i8 m, .int .i8 k] w (fun v w' => v = .bool true ∧ SH w noBlocks [] w') := by
  have hLL : L.length ≤ 100 → L.length ≤ 4294967296 := fun h => by omega
  refine does_enter5 Try.func5 rfl Try.ntmps5 rfl ?_
  have H := SH.start w noBlocks
  refine tr_seq (fun K1 hK1 => ?_)
  -- region 0: law.go:49
  refine tr_region ?_
  refine tr_box H rfl rfl rfl rfl rfl rfl ?_
  intro b8 w1 hb8 H
  refine tr_box H rfl rfl rfl rfl rfl rfl ?_
  intro b9 w2 hb9 H
  refine tr_val (ov_assign rfl rfl) rfl rfl rfl ?_
  refine tr_nil (hK1 _ _ (TrC.keep [10, 9, 8, 0, 1, 2] ?_))
  show TrC _ _ _ _ [(10, _), (9, _), (8, _), (0, _), (1, _), (2, _)] _ _
  refine tr_seq (fun K2 hK2 => ?_)
  refine tr_seq (fun K3 hK3 => ?_)
  -- region 1: law.go:50
  refine tr_region ?_
  refine tr_val (ov_move rfl rfl) rfl rfl rfl ?_
  refine tr_val (ov_len rfl rfl Try.underlying33 rfl) rfl rfl rfl ?_
  refine tr_val (ov_gtr rfl rfl rfl) rfl rfl rfl ?_
  refine tr_val (ov_move rfl rfl) rfl rfl rfl ?_
  first | refine tr_split (t := 19) rfl (fun s19 => ?_) (fun s19 => ?_) | refine tr_splitb (t := 19) rfl (fun s19 => ?_) (fun s19 => ?_)
  · skip
    refine tr_pass rfl rfl rfl ?_
    refine tr_pass rfl rfl rfl ?_
    refine tr_pass rfl rfl rfl ?_
    refine tr_val (ov_pick (vb := undef) rfl rfl rfl rfl) rfl rfl rfl ?_
    refine tr_nil (hK3 _ _ (TrC.keep [23, 10, 9, 8, 0, 1, 2] ?_))
    show TrC _ _ _ _ [(23, _), (10, _), (9, _), (8, _), (0, _), (1, _), (2, _)] _ _
    refine tr_cond_t rfl rfl ?_
    refine tr_seq (fun K4 hK4 => ?_)
    -- region 2: law.go:51
    refine tr_region ?_
    refine tr_call (lives09_c _) rfl rfl rfl Try.call17 rfl rfl rfl ?_
    rintro _ w3 ⟨rfl, HC⟩
    have H := H.call0n HC
    refine tr_val (ov_assign rfl rfl) rfl rfl rfl ?_
    refine tr_nil (hK4 _ _ (TrC.keep [10, 23, 9, 8, 0, 1, 2] ?_))
    show TrC _ _ _ _ [(10, _), (23, _), (9, _), (8, _), (0, _), (1, _), (2, _)] _ _
    refine tr_ret (post_ret1 (.inr rfl) rfl rfl ?_)
    exact ⟨rfl, H.drop0.drop0⟩
  · skip
    refine tr_val (ov_move rfl rfl) rfl rfl rfl ?_
    refine tr_call (RowR_c A c L _ (H.rd0 hR) (by omega)) rfl rfl rfl Try.call19 rfl rfl rfl ?_
    rintro _ w4 ⟨rfl, HC⟩
    have H := H.call0n HC
    refine tr_val (ov_neq rfl rfl rfl) rfl rfl rfl ?_
    refine tr_val (ov_pick_f (va := undef) rfl rfl rfl rfl) rfl rfl rfl ?_
    refine tr_nil (hK3 _ _ (TrC.keep [23, 10, 9, 8, 0, 1, 2] ?_))
    show TrC _ _ _ _ [(23, _), (10, _), (9, _), (8, _), (0, _), (1, _), (2, _)] _ _
    first | refine tr_cond rfl (fun c23 => ?_) (fun c23 => ?_) | refine tr_condb rfl (fun c23 => ?_) (fun c23 => ?_)
    · skip
      refine tr_seq (fun K5 hK5 => ?_)
      -- region 2: law.go:51
      refine tr_region ?_
      refine tr_call (lives09_c _) rfl rfl rfl Try.call17 rfl rfl rfl ?_
      rintro _ w5 ⟨rfl, HC⟩
      have H := H.call0n HC
      refine tr_val (ov_assign rfl rfl) rfl rfl rfl ?_
      refine tr_nil (hK5 _ _ (TrC.keep [10, 23, 9, 8, 0, 1, 2] ?_))
      show TrC _ _ _ _ [(10, _), (23, _), (9, _), (8, _), (0, _), (1, _), (2, _)] _ _
      refine tr_ret (post_ret1 (.inr rfl) rfl rfl ?_)
      exact ⟨rfl, H.drop0.drop0⟩
    · skip
      refine tr_skip (hK2 _ _ (TrC.keep [23, 10, 9, 8, 0, 1, 2] ?_))
      show TrC _ _ _ _ [(23, _), (10, _), (9, _), (8, _), (0, _), (1, _), (2, _)] _ _
      refine tr_seq (fun K6 hK6 => ?_)
      -- region 3: law.go:53
      have h0 : rowV L = 0 := by omega
      have hz := rowV_zero h0
      have hL : L.length ≤ 4294967296 := by omega
      refine tr_region ?_
      refine tr_val (ov_move rfl rfl) rfl rfl rfl ?_
      refine tr_call (almNew_c A c L _ (H.rd0 hR) (by omega)) rfl rfl rfl Try.call18 rfl rfl rfl ?_
      rintro _ w6 ⟨p, g, rfl, hp0, hp1, HC⟩
      have H := H.call0r HC
      rw [if_pos h0] at H
      refine tr_val (ov_move rfl rfl) rfl rfl rfl ?_
      refine tr_val (ov_extract rfl rfl rfl) rfl rfl rfl ?_
      refine tr_val (ov_extract rfl rfl rfl) rfl rfl rfl ?_
      refine tr_val (ov_assign rfl rfl) rfl rfl rfl ?_
      refine tr_val (ov_assign rfl rfl) rfl rfl rfl ?_
      refine tr_nil (hK6 _ _ (TrC.keep [12, 11, 23, 10, 9, 8, 0, 1, 2] ?_))
      show TrC _ _ _ _ [(12, _), (11, _), (23, _), (10, _), (9, _), (8, _), (0, _), (1, _), (2, _)] _ _
      refine tr_seq (fun K7 hK7 => ?_)
      refine tr_seq (fun K8 hK8 => ?_)
      -- region 4: law.go:54
      refine tr_region ?_
      refine tr_val (ov_move rfl rfl) rfl rfl rfl ?_
      refine tr_val (ov_neq rfl rfl rfl) rfl rfl rfl ?_
      refine tr_nil (hK8 _ _ (TrC.keep [31, 11, 23, 10, 9, 8, 0, 1, 2] ?_))
      show TrC _ _ _ _ [(31, _), (11, _), (23, _), (10, _), (9, _), (8, _), (0, _), (1, _), (2, _)] _ _
      first | refine tr_cond rfl (fun c31 => ?_) (fun c31 => ?_) | refine tr_condb rfl (fun c31 => ?_) (fun c31 => ?_)
      · exact absurd h0 c31
      · skip
        refine tr_skip (hK7 _ _ (TrC.keep [31, 11, 23, 10, 9, 8, 0, 1, 2] ?_))
        show TrC _ _ _ _ [(31, _), (11, _), (23, _), (10, _), (9, _), (8, _), (0, _), (1, _), (2, _)] _ _
        refine tr_seq (fun K9 hK9 => ?_)
        -- region 6: law.go:57
        refine tr_region ?_
        refine tr_val (ov_move rfl rfl) rfl rfl rfl ?_
        refine tr_val (ov_move rfl rfl) rfl rfl rfl ?_
        refine tr_val (ov_move rfl rfl) rfl rfl rfl ?_
        refine tr_call (free_c p g L a b _ H.get0 hz.1 hz.2) rfl rfl rfl Try.call26 rfl rfl rfl ?_
        rintro _ w7 ⟨A5, c5, rfl, HC⟩
        have H := H.call1e HC
        have hfl : (freeV L a b).length ≤ 33 := by have := free_len L (max a 0) (min b 1125899906842624); unfold freeV; omega
        refine tr_val (ov_move rfl rfl) rfl rfl rfl ?_
        refine tr_val (ov_extract rfl rfl rfl) rfl rfl rfl ?_
        refine tr_val (ov_extract rfl rfl rfl) rfl rfl rfl ?_
        refine tr_val (ov_assign rfl rfl) rfl rfl rfl ?_
        refine tr_val (ov_assign rfl rfl) rfl rfl rfl ?_
        refine tr_nil (hK9 _ _ (TrC.keep [14, 13, 31, 11, 23, 10, 9, 8, 0, 1, 2] ?_))
        show TrC _ _ _ _ [(14, _), (13, _), (31, _), (11, _), (23, _), (10, _), (9, _), (8, _), (0, _), (1, _), (2, _)] _ _
        refine tr_seq (fun K10 hK10 => ?_)
        -- region 7: law.go:58
        refine tr_region ?_
        refine tr_val (ov_move rfl rfl) rfl rfl rfl ?_
        refine tr_val (ov_move rfl rfl) rfl rfl rfl ?_
        refine tr_val (ov_move rfl rfl) rfl rfl rfl ?_
        refine tr_val (ov_makeFunc2 rfl rfl rfl) rfl rfl rfl ?_
        refine tr_call (Lost_c p L _ (alm_read H.get1) a b hL 28 [.pointer (some ⟨b8, 0, none⟩), .pointer (some ⟨b9, 0, none⟩)] (lostF m k) Try.call28 (fun s w1 hs h => AF1_c s.1 s.2 m k b8 b9 w1 hs hm hk (h.blk0 H.get3) (h.blk0 H.get2))) rfl rfl rfl Try.call27 rfl rfl rfl ?_
        rintro _ w8 ⟨rfl, HC⟩
        have H := H.call0n HC
        refine tr_val (ov_assign rfl rfl) rfl rfl rfl ?_
        refine tr_nil (hK10 _ _ (TrC.keep [15, 14, 13, 31, 11, 23, 10, 9, 8, 0, 1, 2] ?_))
        show TrC _ _ _ _ [(15, _), (14, _), (13, _), (31, _), (11, _), (23, _), (10, _), (9, _), (8, _), (0, _), (1, _), (2, _)] _ _
        refine tr_seq (fun K11 hK11 => ?_)
        -- region 8: law.go:59
        refine tr_region ?_
        refine tr_val (ov_move rfl rfl) rfl rfl rfl ?_
        refine tr_val (ov_move rfl rfl) rfl rfl rfl ?_
        first | refine tr_split (t := 45) rfl (fun s45 => ?_) (fun s45 => ?_) | refine tr_splitb (t := 45) rfl (fun s45 => ?_) (fun s45 => ?_)
        · skip
          refine tr_val (ov_move rfl rfl) rfl rfl rfl ?_
          refine tr_val (ov_move rfl rfl) rfl rfl rfl ?_
          refine tr_val (ov_move rfl rfl) rfl rfl rfl ?_
          refine tr_val (ov_move rfl rfl) rfl rfl rfl ?_
          refine tr_call (FreeR_c A c L _ (H.rd0 hR) hL a b) rfl rfl rfl Try.call29 rfl rfl rfl ?_
          rintro _ w9 ⟨A6, c6, rfl, HC⟩
          have H := H.call0r HC
          refine tr_call (SameR_c A5 c5 (freeV L a b) _ (vec_rd H.get1 lenSpan (by decide)) (by omega) A6 c6 (freeV L a b) (vec_rd H.get0 lenSpan (by decide)) (by omega)) rfl rfl rfl Try.call24 rfl rfl rfl ?_
          rintro _ w10 ⟨rfl, HC⟩
          have H := H.call0n HC
          refine tr_val (ov_pick (vb := undef) rfl rfl rfl rfl) rfl rfl rfl ?_
          refine tr_val (ov_move rfl rfl) rfl rfl rfl ?_
          first | refine tr_split (t := 53) rfl (fun s53 => ?_) (fun s53 => ?_) | refine tr_splitb (t := 53) rfl (fun s53 => ?_) (fun s53 => ?_)
          · skip
            refine tr_val (ov_move rfl rfl) rfl rfl rfl ?_
            refine tr_val (ov_move rfl rfl) rfl rfl rfl ?_
            refine tr_val (ov_move rfl rfl) rfl rfl rfl ?_
            refine tr_val (ov_move rfl rfl) rfl rfl rfl ?_
            first | refine tr_val (ov_load_blk H.get0 rfl (Try.isAgg48 _) rfl rfl rfl) rfl rfl rfl ?_ | refine tr_val (ov_load_blk H.get1 rfl (Try.isAgg48 _) rfl rfl rfl) rfl rfl rfl ?_ | refine tr_val (ov_load_blk H.get2 rfl (Try.isAgg48 _) rfl rfl rfl) rfl rfl rfl ?_ | refine tr_val (ov_load_blk H.get3 rfl (Try.isAgg48 _) rfl rfl rfl) rfl rfl rfl ?_ | refine tr_val (ov_load_blk H.get4 rfl (Try.isAgg48 _) rfl rfl rfl) rfl rfl rfl ?_ | refine tr_val (ov_load_blk H.get5 rfl (Try.isAgg48 _) rfl rfl rfl) rfl rfl rfl ?_
            refine tr_val (ov_conv rfl Try.underlying48 Try.underlying2 rfl (w64 (by omega))) rfl rfl rfl ?_
            first | refine tr_val (ov_load_blk H.get0 rfl (Try.isAgg48 _) rfl rfl rfl) rfl rfl rfl ?_ | refine tr_val (ov_load_blk H.get1 rfl (Try.isAgg48 _) rfl rfl rfl) rfl rfl rfl ?_ | refine tr_val (ov_load_blk H.get2 rfl (Try.isAgg48 _) rfl rfl rfl) rfl rfl rfl ?_ | refine tr_val (ov_load_blk H.get3 rfl (Try.isAgg48 _) rfl rfl rfl) rfl rfl rfl ?_ | refine tr_val (ov_load_blk H.get4 rfl (Try.isAgg48 _) rfl rfl rfl) rfl rfl rfl ?_ | refine tr_val (ov_load_blk H.get5 rfl (Try.isAgg48 _) rfl rfl rfl) rfl rfl rfl ?_
            refine tr_val (ov_conv rfl Try.underlying48 Try.underlying2 rfl (w64 (by omega))) rfl rfl rfl ?_
            refine tr_call (LostR_c A c L _ (H.rd0 hR) hL a b m k) rfl rfl rfl Try.call30 rfl rfl rfl ?_
            rintro _ w11 ⟨rfl, HC⟩
            have H := H.call0n HC
            refine tr_val (ov_eql rfl rfl rfl) rfl rfl rfl ?_
            refine tr_val (ov_pick (vb := undef) rfl rfl rfl rfl) rfl rfl rfl ?_
            refine tr_val (ov_move rfl rfl) rfl rfl rfl ?_
            first | refine tr_split (t := 65) rfl (fun s65 => ?_) (fun s65 => ?_) | refine tr_splitb (t := 65) rfl (fun s65 => ?_) (fun s65 => ?_)
            · skip
              refine tr_val (ov_move rfl rfl) rfl rfl rfl ?_
              refine tr_val (ov_move rfl rfl) rfl rfl rfl ?_
              refine tr_val (ov_move rfl rfl) rfl rfl rfl ?_
              refine tr_call (LostN_c p _ a b) rfl rfl rfl Try.call27 rfl rfl rfl ?_
              rintro _ w12 ⟨rfl, HC⟩
              have H := H.call0n HC
              refine tr_val (ov_eql rfl rfl rfl) rfl rfl rfl ?_
              refine tr_val (ov_pick (vb := undef) rfl rfl rfl rfl) rfl rfl rfl ?_
              refine tr_val (ov_move rfl rfl) rfl rfl rfl ?_
              first | refine tr_split (t := 72) rfl (fun s72 => ?_) (fun s72 => ?_) | refine tr_splitb (t := 72) rfl (fun s72 => ?_) (fun s72 => ?_)
              · skip
                refine tr_call (lives09_c _) rfl rfl rfl Try.call17 rfl rfl rfl ?_
                rintro _ w13 ⟨rfl, HC⟩
                have H := H.call0n HC
                refine tr_val (ov_pick (vb := undef) rfl rfl rfl rfl) rfl rfl rfl ?_
                refine tr_val (ov_assign rfl rfl) rfl rfl rfl ?_
                refine tr_nil (hK11 _ _ (TrC.keep [10, 31, 11, 23, 9, 8, 0, 1, 2] ?_))
                show TrC _ _ _ _ [(10, _), (31, _), (11, _), (23, _), (9, _), (8, _), (0, _), (1, _), (2, _)] _ _
                refine tr_ret (post_ret1 (.inr rfl) rfl rfl ?_)
                exact ⟨rfl, H.drop0.drop0.drop0.drop0.drop0⟩
              · exact absurd rfl s72
            · exact absurd rfl s65
          · exact absurd rfl s53
        · cases s45

/-! curfew/curfewlaw09.AlmanacAll -/
set_option maxRecDepth 20000 in
theorem AlmanacAll_c (A : Option Addr) (c : Nat) (L : List Sp) (w : World) (hR : Rd w A 2 (L.map encSpan)) (a b : Int) : Does Try.prog 6 #[.slice A L.length c, .int .i64 a, .int .i64 b] w (fun v w' => v = .bool true ∧ SH w noBlocks [] w') := by
  have hLL : L.length ≤ 100 → L.length ≤ 4294967296 := fun h => by omega
  refine does_enter3 Try.func6 rfl Try.ntmps6 rfl ?_
  have H := SH.start w noBlocks
  refine tr_seq (fun K1 hK1 => ?_)
  -- region 0: law.go:63
  refine tr_region ?_
  refine tr_val (ov_assign rfl rfl) rfl rfl rfl ?_
  refine tr_nil (hK1 _ _ (TrC.keep [6, 0, 1, 2] ?_))
  show TrC _ _ _ _ [(6, _), (0, _), (1, _), (2, _)] _ _
  refine tr_seq (fun K2 hK2 => ?_)
  refine tr_seq (fun K3 hK3 => ?_)
  -- region 1: law.go:64
  refine tr_region ?_
  refine tr_val (ov_move rfl rfl) rfl rfl rfl ?_
  refine tr_val (ov_len rfl rfl Try.underlying33 rfl) rfl rfl rfl ?_
  refine tr_val (ov_gtr rfl rfl rfl) rfl rfl rfl ?_
  refine tr_val (ov_move rfl rfl) rfl rfl rfl ?_
  first | refine tr_split (t := 17) rfl (fun s17 => ?_) (fun s17 => ?_) | refine tr_splitb (t := 17) rfl (fun s17 => ?_) (fun s17 => ?_)
  · skip
    refine tr_pass rfl rfl rfl ?_
    refine tr_pass rfl rfl rfl ?_
    refine tr_pass rfl rfl rfl ?_
    refine tr_val (ov_pick (vb := undef) rfl rfl rfl rfl) rfl rfl rfl ?_
    refine tr_val (ov_move rfl rfl) rfl rfl rfl ?_
    refine tr_pass rfl rfl rfl ?_
    refine tr_pass rfl rfl rfl ?_
    refine tr_val (ov_pick (vb := undef) rfl rfl rfl rfl) rfl rfl rfl ?_
    refine tr_val (ov_move rfl rfl) rfl rfl rfl ?_
    refine tr_pass rfl rfl rfl ?_
    refine tr_pass rfl rfl rfl ?_
    refine tr_val (ov_pick (vb := undef) rfl rfl rfl rfl) rfl rfl rfl ?_
    refine tr_val (ov_move rfl rfl) rfl rfl rfl ?_
    refine tr_pass rfl rfl rfl ?_
    refine tr_pass rfl rfl rfl ?_
    refine tr_pass rfl rfl rfl ?_
    refine tr_val (ov_pick (vb := undef) rfl rfl rfl rfl) rfl rfl rfl ?_
    refine tr_nil (hK3 _ _ (TrC.keep [34, 6, 0, 1, 2] ?_))
    show TrC _ _ _ _ [(34, _), (6, _), (0, _), (1, _), (2, _)] _ _
    refine tr_cond_t rfl rfl ?_
    refine tr_seq (fun K4 hK4 => ?_)
    -- region 2: law.go:65
    refine tr_region ?_
    refine tr_call (lives09_c _) rfl rfl rfl Try.call17 rfl rfl rfl ?_
    rintro _ w1 ⟨rfl, HC⟩
    have H := H.call0n HC
    refine tr_val (ov_assign rfl rfl) rfl rfl rfl ?_
    refine tr_nil (hK4 _ _ (TrC.keep [6, 34, 0, 1, 2] ?_))
    show TrC _ _ _ _ [(6, _), (34, _), (0, _), (1, _), (2, _)] _ _
    refine tr_ret (post_ret1 (.inr rfl) rfl rfl ?_)
    first | exact ⟨rfl, H⟩ | exact ⟨rfl, H.drop0⟩ | exact ⟨rfl, H.drop0.drop0⟩ | exact ⟨rfl, H.drop0.drop0.drop0⟩ | exact ⟨rfl, H.drop0.drop0.drop0.drop0⟩ | exact ⟨rfl, H.drop0.drop0.drop0.drop0.drop0⟩ | exact ⟨rfl, H.drop0.drop0.drop0.drop0.drop0.drop0⟩ | exact ⟨rfl, H.drop0.drop0.drop0.drop0.drop0.drop0.drop0⟩
  · skip
    refine tr_val (ov_move rfl rfl) rfl rfl rfl ?_
    refine tr_call (RowR_c A c L _ (H.rd0 hR) (by omega)) rfl rfl rfl Try.call19 rfl rfl rfl ?_
    rintro _ w2 ⟨rfl, HC⟩
    have H := H.call0n HC
    refine tr_val (ov_neq rfl rfl rfl) rfl rfl rfl ?_
    refine tr_val (ov_pick_f (va := undef) rfl rfl rfl rfl) rfl rfl rfl ?_
    refine tr_val (ov_move rfl rfl) rfl rfl rfl ?_
    first | refine tr_split (t := 22) rfl (fun s22 => ?_) (fun s22 => ?_) | refine tr_splitb (t := 22) rfl (fun s22 => ?_) (fun s22 => ?_)
    · skip
      refine tr_pass rfl rfl rfl ?_
      refine tr_pass rfl rfl rfl ?_
      refine tr_val (ov_pick (vb := undef) rfl rfl rfl rfl) rfl rfl rfl ?_
      refine tr_val (ov_move rfl rfl) rfl rfl rfl ?_
      refine tr_pass rfl rfl rfl ?_
      refine tr_pass rfl rfl rfl ?_
      refine tr_val (ov_pick (vb := undef) rfl rfl rfl rfl) rfl rfl rfl ?_
      refine tr_val (ov_move rfl rfl) rfl rfl rfl ?_
      refine tr_pass rfl rfl rfl ?_
      refine tr_pass rfl rfl rfl ?_
      refine tr_pass rfl rfl rfl ?_
      refine tr_val (ov_pick (vb := undef) rfl rfl rfl rfl) rfl rfl rfl ?_
      refine tr_nil (hK3 _ _ (TrC.keep [34, 6, 0, 1, 2] ?_))
      show TrC _ _ _ _ [(34, _), (6, _), (0, _), (1, _), (2, _)] _ _
      refine tr_cond_t rfl rfl ?_
      refine tr_seq (fun K5 hK5 => ?_)
      -- region 2: law.go:65
      refine tr_region ?_
      refine tr_call (lives09_c _) rfl rfl rfl Try.call17 rfl rfl rfl ?_
      rintro _ w3 ⟨rfl, HC⟩
      have H := H.call0n HC
      refine tr_val (ov_assign rfl rfl) rfl rfl rfl ?_
      refine tr_nil (hK5 _ _ (TrC.keep [6, 34, 0, 1, 2] ?_))
      show TrC _ _ _ _ [(6, _), (34, _), (0, _), (1, _), (2, _)] _ _
      refine tr_ret (post_ret1 (.inr rfl) rfl rfl ?_)
      first | exact ⟨rfl, H⟩ | exact ⟨rfl, H.drop0⟩ | exact ⟨rfl, H.drop0.drop0⟩ | exact ⟨rfl, H.drop0.drop0.drop0⟩ | exact ⟨rfl, H.drop0.drop0.drop0.drop0⟩ | exact ⟨rfl, H.drop0.drop0.drop0.drop0.drop0⟩ | exact ⟨rfl, H.drop0.drop0.drop0.drop0.drop0.drop0⟩ | exact ⟨rfl, H.drop0.drop0.drop0.drop0.drop0.drop0.drop0⟩
    · skip
      refine tr_val (ov_move rfl rfl) rfl rfl rfl ?_
      refine tr_val (ov_lss rfl rfl rfl) rfl rfl rfl ?_
      refine tr_val (ov_pick_f (va := undef) rfl rfl rfl rfl) rfl rfl rfl ?_
      refine tr_val (ov_move rfl rfl) rfl rfl rfl ?_
      first | refine tr_split (t := 26) rfl (fun s26 => ?_) (fun s26 => ?_) | refine tr_splitb (t := 26) rfl (fun s26 => ?_) (fun s26 => ?_)
      · skip
        refine tr_pass rfl rfl rfl ?_
        refine tr_pass rfl rfl rfl ?_
        refine tr_val (ov_pick (vb := undef) rfl rfl rfl rfl) rfl rfl rfl ?_
        refine tr_val (ov_move rfl rfl) rfl rfl rfl ?_
        refine tr_pass rfl rfl rfl ?_
        refine tr_pass rfl rfl rfl ?_
        refine tr_pass rfl rfl rfl ?_
        refine tr_val (ov_pick (vb := undef) rfl rfl rfl rfl) rfl rfl rfl ?_
        refine tr_nil (hK3 _ _ (TrC.keep [34, 6, 0, 1, 2] ?_))
        show TrC _ _ _ _ [(34, _), (6, _), (0, _), (1, _), (2, _)] _ _
        refine tr_cond_t rfl rfl ?_
        refine tr_seq (fun K6 hK6 => ?_)
        -- region 2: law.go:65
        refine tr_region ?_
        refine tr_call (lives09_c _) rfl rfl rfl Try.call17 rfl rfl rfl ?_
        rintro _ w4 ⟨rfl, HC⟩
        have H := H.call0n HC
        refine tr_val (ov_assign rfl rfl) rfl rfl rfl ?_
        refine tr_nil (hK6 _ _ (TrC.keep [6, 34, 0, 1, 2] ?_))
        show TrC _ _ _ _ [(6, _), (34, _), (0, _), (1, _), (2, _)] _ _
        refine tr_ret (post_ret1 (.inr rfl) rfl rfl ?_)
        first | exact ⟨rfl, H⟩ | exact ⟨rfl, H.drop0⟩ | exact ⟨rfl, H.drop0.drop0⟩ | exact ⟨rfl, H.drop0.drop0.drop0⟩ | exact ⟨rfl, H.drop0.drop0.drop0.drop0⟩ | exact ⟨rfl, H.drop0.drop0.drop0.drop0.drop0⟩ | exact ⟨rfl, H.drop0.drop0.drop0.drop0.drop0.drop0⟩ | exact ⟨rfl, H.drop0.drop0.drop0.drop0.drop0.drop0.drop0⟩
      · skip
        refine tr_val (ov_move rfl rfl) rfl rfl rfl ?_
        refine tr_val (ov_gtr rfl rfl rfl) rfl rfl rfl ?_
        refine tr_val (ov_pick_f (va := undef) rfl rfl rfl rfl) rfl rfl rfl ?_
        refine tr_val (ov_move rfl rfl) rfl rfl rfl ?_
        first | refine tr_split (t := 30) rfl (fun s30 => ?_) (fun s30 => ?_) | refine tr_splitb (t := 30) rfl (fun s30 => ?_) (fun s30 => ?_)
        · skip
          refine tr_pass rfl rfl rfl ?_
          refine tr_pass rfl rfl rfl ?_
          refine tr_pass rfl rfl rfl ?_
          refine tr_val (ov_pick (vb := undef) rfl rfl rfl rfl) rfl rfl rfl ?_
          refine tr_nil (hK3 _ _ (TrC.keep [34, 6, 0, 1, 2] ?_))
          show TrC _ _ _ _ [(34, _), (6, _), (0, _), (1, _), (2, _)] _ _
          refine tr_cond_t rfl rfl ?_
          refine tr_seq (fun K7 hK7 => ?_)
          -- region 2: law.go:65
          refine tr_region ?_
          refine tr_call (lives09_c _) rfl rfl rfl Try.call17 rfl rfl rfl ?_
          rintro _ w5 ⟨rfl, HC⟩
          have H := H.call0n HC
          refine tr_val (ov_assign rfl rfl) rfl rfl rfl ?_
          refine tr_nil (hK7 _ _ (TrC.keep [6, 34, 0, 1, 2] ?_))
          show TrC _ _ _ _ [(6, _), (34, _), (0, _), (1, _), (2, _)] _ _
          refine tr_ret (post_ret1 (.inr rfl) rfl rfl ?_)
          first | exact ⟨rfl, H⟩ | exact ⟨rfl, H.drop0⟩ | exact ⟨rfl, H.drop0.drop0⟩ | exact ⟨rfl, H.drop0.drop0.drop0⟩ | exact ⟨rfl, H.drop0.drop0.drop0.drop0⟩ | exact ⟨rfl, H.drop0.drop0.drop0.drop0.drop0⟩ | exact ⟨rfl, H.drop0.drop0.drop0.drop0.drop0.drop0⟩ | exact ⟨rfl, H.drop0.drop0.drop0.drop0.drop0.drop0.drop0⟩
        · skip
          refine tr_val (ov_move rfl rfl) rfl rfl rfl ?_
          refine tr_val (ov_move rfl rfl) rfl rfl rfl ?_
          refine tr_val (ov_gtr rfl rfl rfl) rfl rfl rfl ?_
          refine tr_val (ov_pick_f (va := undef) rfl rfl rfl rfl) rfl rfl rfl ?_
          refine tr_nil (hK3 _ _ (TrC.keep [34, 6, 0, 1, 2] ?_))
          show TrC _ _ _ _ [(34, _), (6, _), (0, _), (1, _), (2, _)] _ _
          first | refine tr_cond rfl (fun c34 => ?_) (fun c34 => ?_) | refine tr_condb rfl (fun c34 => ?_) (fun c34 => ?_)
          · skip
            refine tr_seq (fun K8 hK8 => ?_)
            -- region 2: law.go:65
            refine tr_region ?_
            refine tr_call (lives09_c _) rfl rfl rfl Try.call17 rfl rfl rfl ?_
            rintro _ w6 ⟨rfl, HC⟩
            have H := H.call0n HC
            refine tr_val (ov_assign rfl rfl) rfl rfl rfl ?_
            refine tr_nil (hK8 _ _ (TrC.keep [6, 34, 0, 1, 2] ?_))
            show TrC _ _ _ _ [(6, _), (34, _), (0, _), (1, _), (2, _)] _ _
            refine tr_ret (post_ret1 (.inr rfl) rfl rfl ?_)
            first | exact ⟨rfl, H⟩ | exact ⟨rfl, H.drop0⟩ | exact ⟨rfl, H.drop0.drop0⟩ | exact ⟨rfl, H.drop0.drop0.drop0⟩ | exact ⟨rfl, H.drop0.drop0.drop0.drop0⟩ | exact ⟨rfl, H.drop0.drop0.drop0.drop0.drop0⟩ | exact ⟨rfl, H.drop0.drop0.drop0.drop0.drop0.drop0⟩ | exact ⟨rfl, H.drop0.drop0.drop0.drop0.drop0.drop0.drop0⟩
          · skip
            refine tr_skip (hK2 _ _ (TrC.keep [34, 6, 0, 1, 2] ?_))
            show TrC _ _ _ _ [(34, _), (6, _), (0, _), (1, _), (2, _)] _ _
            refine tr_seq (fun K9 hK9 => ?_)
            -- region 3: law.go:67
            have h0 : rowV L = 0 := by omega
            have hz := rowV_zero h0
            have hL : L.length ≤ 4294967296 := by omega
            have ha0 : 0 ≤ a := by omega
            have hb1 : b ≤ 1125899906842624 := by omega
            have hab : a ≤ b := by omega
            have hfr : freeV L a b = freeR L a b := by unfold freeV; rw [show max a 0 = a by omega, show min b 1125899906842624 = b by omega]
            have hprop := fun t ht => free_props (a := a) (b := b) hz.2 ha0 hb1 t (hfr ▸ ht)
            have hsum := free_sum hz.2 ha0 hab hb1
            rw [← hfr] at hsum
            have hfl : (freeV L a b).length ≤ 33 := by have := free_len L a b; rw [hfr]; omega
            refine tr_region ?_
            refine tr_val (ov_move rfl rfl) rfl rfl rfl ?_
            refine tr_call (almNew_c A c L _ (H.rd0 hR) (by omega)) rfl rfl rfl Try.call18 rfl rfl rfl ?_
            rintro _ w7 ⟨p, g, rfl, hp0, hp1, HC⟩
            have H := H.call0r HC
            rw [if_pos h0] at H
            refine tr_val (ov_move rfl rfl) rfl rfl rfl ?_
            refine tr_val (ov_extract rfl rfl rfl) rfl rfl rfl ?_
            refine tr_val (ov_extract rfl rfl rfl) rfl rfl rfl ?_
            refine tr_val (ov_assign rfl rfl) rfl rfl rfl ?_
            refine tr_val (ov_assign rfl rfl) rfl rfl rfl ?_
            refine tr_nil (hK9 _ _ (TrC.keep [8, 7, 34, 6, 0, 1, 2] ?_))
            show TrC _ _ _ _ [(8, _), (7, _), (34, _), (6, _), (0, _), (1, _), (2, _)] _ _
            refine tr_seq (fun K10 hK10 => ?_)
            refine tr_seq (fun K11 hK11 => ?_)
            -- region 4: law.go:68
            refine tr_region ?_
            refine tr_val (ov_move rfl rfl) rfl rfl rfl ?_
            refine tr_val (ov_neq rfl rfl rfl) rfl rfl rfl ?_
            refine tr_nil (hK11 _ _ (TrC.keep [42, 7, 34, 6, 0, 1, 2] ?_))
            show TrC _ _ _ _ [(42, _), (7, _), (34, _), (6, _), (0, _), (1, _), (2, _)] _ _
            first | refine tr_cond rfl (fun c42 => ?_) (fun c42 => ?_) | refine tr_condb rfl (fun c42 => ?_) (fun c42 => ?_)
            · exact absurd h0 c42
            · skip
              refine tr_skip (hK10 _ _ (TrC.keep [42, 7, 34, 6, 0, 1, 2] ?_))
              show TrC _ _ _ _ [(42, _), (7, _), (34, _), (6, _), (0, _), (1, _), (2, _)] _ _
              refine tr_seq (fun K12 hK12 => ?_)
              -- region 6: law.go:71
              refine tr_region ?_
              refine tr_val (ov_move rfl rfl) rfl rfl rfl ?_
              refine tr_val (ov_move rfl rfl) rfl rfl rfl ?_
              refine tr_val (ov_move rfl rfl) rfl rfl rfl ?_
              refine tr_call (free_c p g L a b _ H.get0 hz.1 hz.2) rfl rfl rfl Try.call26 rfl rfl rfl ?_
              rintro _ w8 ⟨A5, c5, rfl, HC⟩
              have H := H.call1e HC
              refine tr_val (ov_move rfl rfl) rfl rfl rfl ?_
              refine tr_val (ov_extract rfl rfl rfl) rfl rfl rfl ?_
              refine tr_val (ov_extract rfl rfl rfl) rfl rfl rfl ?_
              refine tr_val (ov_assign rfl rfl) rfl rfl rfl ?_
              refine tr_val (ov_assign rfl rfl) rfl rfl rfl ?_
              refine tr_nil (hK12 _ _ (TrC.keep [10, 9, 42, 7, 34, 6, 0, 1, 2] ?_))
              show TrC _ _ _ _ [(10, _), (9, _), (42, _), (7, _), (34, _), (6, _), (0, _), (1, _), (2, _)] _ _
              refine tr_seq (fun K13 hK13 => ?_)
              -- region 7: law.go:72
              refine tr_region ?_
              refine tr_val (ov_move rfl rfl) rfl rfl rfl ?_
              refine tr_val (ov_move rfl rfl) rfl rfl rfl ?_
              refine tr_val (ov_move rfl rfl) rfl rfl rfl ?_
              refine tr_call (Lost_c p L _ (alm_read H.get1) a b hL 31 [] (fun s => s.2 - s.1) Try.call31 (fun s w1 hs h => AA1_c s.1 s.2 w1 hs)) rfl rfl rfl Try.call27 rfl rfl rfl ?_
              rintro _ w9 ⟨rfl, HC⟩
              have H := H.call0n HC
              have hls := lost_sum (C := cutV L a b) (a := 0) cutV_small.2 (by omega) (by have := (cutV_small (L := L) (a := a) (b := b)).1; omega)
              have hwi := within_lies h0 a b
              unfold withinV at hwi
              rw [hls, Int.zero_add, hwi]
              have hlb := lies_bd (a := a) (b := b) hz.2
              refine tr_val (ov_assign rfl rfl) rfl rfl rfl ?_
              refine tr_nil (hK13 _ _ (TrC.keep [11, 10, 9, 42, 7, 34, 6, 0, 1, 2] ?_))
              show TrC _ _ _ _ [(11, _), (10, _), (9, _), (42, _), (7, _), (34, _), (6, _), (0, _), (1, _), (2, _)] _ _
              refine tr_seq (fun K14 hK14 => ?_)
              refine tr_seq (fun K15 hK15 => ?_)
              -- region 8: law.go:73
              refine tr_region ?_
              refine tr_val (ov_move rfl rfl) rfl rfl rfl ?_
              refine tr_val (ov_len rfl rfl Try.underlying33 rfl) rfl rfl rfl ?_
              refine tr_val (ov_move rfl rfl) rfl rfl rfl ?_
              refine tr_nil (hK15 _ _ (TrC.keep [56, 55, 54, 11, 10, 42, 7, 34, 6, 0, 1, 2] ?_))
              show TrC _ _ _ _ [(56, _), (55, _), (54, _), (11, _), (10, _), (42, _), (7, _), (34, _), (6, _), (0, _), (1, _), (2, _)] _ _
              refine tr_block ?_
              refine tr_loop_ (X := Int × Int) [55, 54, 10, 42, 7, 34, 0, 1, 2] (fun ⟨i, t⟩ => [(56, .int .i64 i), (11, .int .i64 t)]) (fun ⟨i, t⟩ w' => 0 ≤ i ∧ i ≤ (freeV L a b).length ∧ 0 ≤ t ∧ t + sumL ((freeV L a b).drop i.toNat) = b - a ∧ SH w noBlocks [vec A5 c5 40 2 encSpan (freeV L a b), alm p g L] w') (fun ⟨i, t⟩ => ((freeV L a b).length - i).toNat) (⟨0, lies L a b⟩) (Sub.cons rfl (Sub.cons rfl (Sub.cons rfl (Sub.cons rfl (Sub.cons rfl (Sub.cons rfl (Sub.cons rfl (Sub.cons rfl (Sub.cons rfl (Sub.cons rfl (Sub.cons rfl Sub.nil))))))))))) (⟨by omega, by omega, by omega, by show lies L a b + sumL (freeV L a b) = b - a; omega, H⟩) ?_
              rintro ⟨i, t⟩ w10 ⟨hi0, hi1, ht0, hx, H⟩ K16 hK16
              show TrC _ _ _ _ [(56, _), (11, _), (55, _), (54, _), (10, _), (42, _), (7, _), (34, _), (0, _), (1, _), (2, _)] _ _
              refine tr_seq (fun K17 hK17 => ?_)
              -- region 9: law.go:73
              refine tr_region ?_
              refine tr_val (ov_lss rfl rfl rfl) rfl rfl rfl ?_
              refine tr_nil (hK17 _ _ (TrC.keep [57, 56, 11, 55, 54, 10, 42, 7, 34, 0, 1, 2] ?_))
              show TrC _ _ _ _ [(57, _), (56, _), (11, _), (55, _), (54, _), (10, _), (42, _), (7, _), (34, _), (0, _), (1, _), (2, _)] _ _
              refine tr_seq (fun K18 hK18 => ?_)
              first | refine tr_cond rfl (fun c57 => ?_) (fun c57 => ?_) | refine tr_condb rfl (fun c57 => ?_) (fun c57 => ?_)
              · skip
                refine tr_skip (hK18 _ _ (TrC.keep [57, 56, 11, 55, 54, 10, 42, 7, 34, 0, 1, 2] ?_))
                show TrC _ _ _ _ [(57, _), (56, _), (11, _), (55, _), (54, _), (10, _), (42, _), (7, _), (34, _), (0, _), (1, _), (2, _)] _ _
                refine tr_seq (fun K19 hK19 => ?_)
                refine tr_block ?_
                refine tr_seq (fun K20 hK20 => ?_)
                -- region 10: law.go:73
                refine tr_region ?_
                refine tr_val (ov_indexAddrR (vec_rd H.get0 lenSpan (by decide)) rfl Try.underlying33 (Try.sizeOf40 _) rfl rfl (by omega) (by omega)) rfl rfl rfl ?_
                refine tr_val (ld_Span (vec_rd H.get0 lenSpan (by decide)) rfl (Try.isAgg40 _) (Try.sizeOf40 _) rfl (by omega) (by omega)) rfl rfl rfl ?_
                refine tr_alloc H rfl (Try.zeroValue40 _) rfl rfl rfl rfl ?_
                intro b1 w11 hb1 H
                first | (refine tr_storeW H.get0 rfl (Try.sizeOf40 _) rfl rfl rfl rfl rfl rfl rfl rfl ?_; intro w12 U; have H := H.upd0 U; clear U) | (refine tr_storeW H.get1 rfl (Try.sizeOf40 _) rfl rfl rfl rfl rfl rfl rfl rfl ?_; intro w12 U; have H := H.upd1 U; clear U) | (refine tr_storeW H.get2 rfl (Try.sizeOf40 _) rfl rfl rfl rfl rfl rfl rfl rfl ?_; intro w12 U; have H := H.upd2 U; clear U) | (refine tr_storeW H.get3 rfl (Try.sizeOf40 _) rfl rfl rfl rfl rfl rfl rfl rfl ?_; intro w12 U; have H := H.upd3 U; clear U) | (refine tr_storeW H.get4 rfl (Try.sizeOf40 _) rfl rfl rfl rfl rfl rfl rfl rfl ?_; intro w12 U; have H := H.upd4 U; clear U) | (refine tr_storeW H.get5 rfl (Try.sizeOf40 _) rfl rfl rfl rfl rfl rfl rfl rfl ?_; intro w12 U; have H := H.upd5 U; clear U)
                refine tr_nil (hK20 _ _ (TrC.keep [13, 57, 56, 11, 55, 54, 10, 42, 7, 34, 0, 1, 2] ?_))
                show TrC _ _ _ _ [(13, _), (57, _), (56, _), (11, _), (55, _), (54, _), (10, _), (42, _), (7, _), (34, _), (0, _), (1, _), (2, _)] _ _
                refine tr_seq (fun K21 hK21 => ?_)
                refine tr_seq (fun K22 hK22 => ?_)
                -- region 11: law.go:74
                obtain ⟨hp1', hp2', hp3', hp4'⟩ := hprop _ (gt_mem (L := (freeV L a b)) hi0 (by omega))
                have hc1 := not_cov_closed h0 (hp4' (gt (freeV L a b) i).1 (by omega) (by omega))
                have hc2 := not_cov_closed h0 (hp4' ((gt (freeV L a b) i).2 - 1) (by omega) (by omega))
                have hw0 : withinV L (gt (freeV L a b) i).1 (gt (freeV L a b) i).2 = 0 := by rw [within_lies h0]; exact lies_zero hp4'
                have hnn := sum_nn (C := (freeV L a b).drop (i + 1).toNat) (fun t ht => (hprop t (List.mem_of_mem_drop ht)).2.1)
                rw [sumL_step hi0 (by omega)] at hx
                refine tr_region ?_
                refine tr_val (ov_move rfl rfl) rfl rfl rfl ?_
                refine tr_val (ov_fieldAddr rfl Try.underlying40 rfl (Try.sizeOf2 _) (by decide) rfl) rfl rfl rfl ?_
                first | refine tr_val (ov_load_blk H.get0 rfl (Try.isAgg2 _) rfl rfl rfl) rfl rfl rfl ?_ | refine tr_val (ov_load_blk H.get1 rfl (Try.isAgg2 _) rfl rfl rfl) rfl rfl rfl ?_ | refine tr_val (ov_load_blk H.get2 rfl (Try.isAgg2 _) rfl rfl rfl) rfl rfl rfl ?_ | refine tr_val (ov_load_blk H.get3 rfl (Try.isAgg2 _) rfl rfl rfl) rfl rfl rfl ?_ | refine tr_val (ov_load_blk H.get4 rfl (Try.isAgg2 _) rfl rfl rfl) rfl rfl rfl ?_ | refine tr_val (ov_load_blk H.get5 rfl (Try.isAgg2 _) rfl rfl rfl) rfl rfl rfl ?_
                refine tr_call (Closed_c p L _ (alm_read H.get2) _ hL) rfl rfl rfl Try.call22 rfl rfl rfl ?_
                rintro _ w13 ⟨rfl, HC⟩
                have H := H.call0n HC
                refine tr_val (ov_move rfl rfl) rfl rfl rfl ?_
                first | refine tr_split (t := 64) rfl (fun s64 => ?_) (fun s64 => ?_) | refine tr_splitb (t := 64) rfl (fun s64 => ?_) (fun s64 => ?_)
                · rw [hc1] at s64; cases s64
                · skip
                  refine tr_val (ov_move rfl rfl) rfl rfl rfl ?_
                  refine tr_val (ov_fieldAddr rfl Try.underlying40 rfl (Try.sizeOf2 _) (by decide) rfl) rfl rfl rfl ?_
                  first | refine tr_val (ov_load_blk H.get0 rfl (Try.isAgg2 _) rfl rfl rfl) rfl rfl rfl ?_ | refine tr_val (ov_load_blk H.get1 rfl (Try.isAgg2 _) rfl rfl rfl) rfl rfl rfl ?_ | refine tr_val (ov_load_blk H.get2 rfl (Try.isAgg2 _) rfl rfl rfl) rfl rfl rfl ?_ | refine tr_val (ov_load_blk H.get3 rfl (Try.isAgg2 _) rfl rfl rfl) rfl rfl rfl ?_ | refine tr_val (ov_load_blk H.get4 rfl (Try.isAgg2 _) rfl rfl rfl) rfl rfl rfl ?_ | refine tr_val (ov_load_blk H.get5 rfl (Try.isAgg2 _) rfl rfl rfl) rfl rfl rfl ?_
                  refine tr_val (ov_sub rfl rfl rfl (w64 (by omega))) rfl rfl rfl ?_
                  refine tr_call (Closed_c p L _ (alm_read H.get2) _ hL) rfl rfl rfl Try.call22 rfl rfl rfl ?_
                  rintro _ w14 ⟨rfl, HC⟩
                  have H := H.call0n HC
                  refine tr_val (ov_pick_f (va := undef) rfl rfl rfl rfl) rfl rfl rfl ?_
                  refine tr_val (ov_move rfl rfl) rfl rfl rfl ?_
                  first | refine tr_split (t := 71) rfl (fun s71 => ?_) (fun s71 => ?_) | refine tr_splitb (t := 71) rfl (fun s71 => ?_) (fun s71 => ?_)
                  · rw [hc2] at s71; cases s71
                  · skip
                    refine tr_val (ov_move rfl rfl) rfl rfl rfl ?_
                    refine tr_val (ov_fieldAddr rfl Try.underlying40 rfl (Try.sizeOf2 _) (by decide) rfl) rfl rfl rfl ?_
                    first | refine tr_val (ov_load_blk H.get0 rfl (Try.isAgg2 _) rfl rfl rfl) rfl rfl rfl ?_ | refine tr_val (ov_load_blk H.get1 rfl (Try.isAgg2 _) rfl rfl rfl) rfl rfl rfl ?_ | refine tr_val (ov_load_blk H.get2 rfl (Try.isAgg2 _) rfl rfl rfl) rfl rfl rfl ?_ | refine tr_val (ov_load_blk H.get3 rfl (Try.isAgg2 _) rfl rfl rfl) rfl rfl rfl ?_ | refine tr_val (ov_load_blk H.get4 rfl (Try.isAgg2 _) rfl rfl rfl) rfl rfl rfl ?_ | refine tr_val (ov_load_blk H.get5 rfl (Try.isAgg2 _) rfl rfl rfl) rfl rfl rfl ?_
                    refine tr_val (ov_fieldAddr rfl Try.underlying40 rfl (Try.sizeOf2 _) (by decide) rfl) rfl rfl rfl ?_
                    first | refine tr_val (ov_load_blk H.get0 rfl (Try.isAgg2 _) rfl rfl rfl) rfl rfl rfl ?_ | refine tr_val (ov_load_blk H.get1 rfl (Try.isAgg2 _) rfl rfl rfl) rfl rfl rfl ?_ | refine tr_val (ov_load_blk H.get2 rfl (Try.isAgg2 _) rfl rfl rfl) rfl rfl rfl ?_ | refine tr_val (ov_load_blk H.get3 rfl (Try.isAgg2 _) rfl rfl rfl) rfl rfl rfl ?_ | refine tr_val (ov_load_blk H.get4 rfl (Try.isAgg2 _) rfl rfl rfl) rfl rfl rfl ?_ | refine tr_val (ov_load_blk H.get5 rfl (Try.isAgg2 _) rfl rfl rfl) rfl rfl rfl ?_
                    refine tr_call (WithinR_c A c L _ (H.rd0 hR) hL _ _) rfl rfl rfl Try.call32 rfl rfl rfl ?_
                    rintro _ w15 ⟨rfl, HC⟩
                    have H := H.call0n HC
                    refine tr_val (ov_neq rfl rfl rfl) rfl rfl rfl ?_
                    refine tr_val (ov_pick_f (va := undef) rfl rfl rfl rfl) rfl rfl rfl ?_
                    refine tr_nil (hK22 _ _ (TrC.keep [79, 13, 57, 56, 11, 55, 54, 10, 42, 7, 34, 0, 1, 2] ?_))
                    show TrC _ _ _ _ [(79, _), (13, _), (57, _), (56, _), (11, _), (55, _), (54, _), (10, _), (42, _), (7, _), (34, _), (0, _), (1, _), (2, _)] _ _
                    first | refine tr_cond rfl (fun c79 => ?_) (fun c79 => ?_) | refine tr_condb rfl (fun c79 => ?_) (fun c79 => ?_)
                    · exact absurd hw0 c79
                    · skip
                      refine tr_skip (hK21 _ _ (TrC.keep [79, 13, 57, 56, 11, 55, 54, 10, 42, 7, 34, 0, 1, 2] ?_))
                      show TrC _ _ _ _ [(79, _), (13, _), (57, _), (56, _), (11, _), (55, _), (54, _), (10, _), (42, _), (7, _), (34, _), (0, _), (1, _), (2, _)] _ _
                      -- region 13: law.go:77
                      refine tr_region ?_
                      refine tr_val (ov_move rfl rfl) rfl rfl rfl ?_
                      refine tr_val (ov_fieldAddr rfl Try.underlying40 rfl (Try.sizeOf2 _) (by decide) rfl) rfl rfl rfl ?_
                      first | refine tr_val (ov_load_blk H.get0 rfl (Try.isAgg2 _) rfl rfl rfl) rfl rfl rfl ?_ | refine tr_val (ov_load_blk H.get1 rfl (Try.isAgg2 _) rfl rfl rfl) rfl rfl rfl ?_ | refine tr_val (ov_load_blk H.get2 rfl (Try.isAgg2 _) rfl rfl rfl) rfl rfl rfl ?_ | refine tr_val (ov_load_blk H.get3 rfl (Try.isAgg2 _) rfl rfl rfl) rfl rfl rfl ?_ | refine tr_val (ov_load_blk H.get4 rfl (Try.isAgg2 _) rfl rfl rfl) rfl rfl rfl ?_ | refine tr_val (ov_load_blk H.get5 rfl (Try.isAgg2 _) rfl rfl rfl) rfl rfl rfl ?_
                      refine tr_val (ov_fieldAddr rfl Try.underlying40 rfl (Try.sizeOf2 _) (by decide) rfl) rfl rfl rfl ?_
                      first | refine tr_val (ov_load_blk H.get0 rfl (Try.isAgg2 _) rfl rfl rfl) rfl rfl rfl ?_ | refine tr_val (ov_load_blk H.get1 rfl (Try.isAgg2 _) rfl rfl rfl) rfl rfl rfl ?_ | refine tr_val (ov_load_blk H.get2 rfl (Try.isAgg2 _) rfl rfl rfl) rfl rfl rfl ?_ | refine tr_val (ov_load_blk H.get3 rfl (Try.isAgg2 _) rfl rfl rfl) rfl rfl rfl ?_ | refine tr_val (ov_load_blk H.get4 rfl (Try.isAgg2 _) rfl rfl rfl) rfl rfl rfl ?_ | refine tr_val (ov_load_blk H.get5 rfl (Try.isAgg2 _) rfl rfl rfl) rfl rfl rfl ?_
                      refine tr_val (ov_sub rfl rfl rfl (w64 (by omega))) rfl rfl rfl ?_
                      refine tr_val (ov_add rfl rfl rfl (w64 (by omega))) rfl rfl rfl ?_
                      refine tr_val (ov_assign rfl rfl) rfl rfl rfl ?_
                      refine tr_nil (hK19 _ _ (TrC.keep [11, 79, 13, 57, 56, 55, 54, 10, 42, 7, 34, 0, 1, 2] ?_))
                      show TrC _ _ _ _ [(11, _), (79, _), (13, _), (57, _), (56, _), (55, _), (54, _), (10, _), (42, _), (7, _), (34, _), (0, _), (1, _), (2, _)] _ _
                      -- region 14: law.go:73
                      refine tr_region ?_
                      refine tr_val (ov_add rfl rfl rfl (w64 (by omega))) rfl rfl rfl ?_
                      refine tr_val (ov_move rfl rfl) rfl rfl rfl ?_
                      skip
                      exact tr_nil (hK16 (⟨i + 1, t + ((gt (freeV L a b) i).2 - (gt (freeV L a b) i).1)⟩) _ _ (⟨by omega, by omega, by omega, by omega, H.drop0⟩) (by first | omega | (dsimp only; omega)) (Sub.cons rfl (Sub.cons rfl (Sub.cons rfl (Sub.cons rfl (Sub.cons rfl (Sub.cons rfl (Sub.cons rfl (Sub.cons rfl (Sub.cons rfl (Sub.cons rfl (Sub.cons rfl Sub.nil))))))))))))
              · skip
                refine tr_exit (hK14 _ _ (TrC.keep [57, 56, 11, 55, 54, 10, 42, 7, 34, 0, 1, 2] ?_))
                show TrC _ _ _ _ [(57, _), (56, _), (11, _), (55, _), (54, _), (10, _), (42, _), (7, _), (34, _), (0, _), (1, _), (2, _)] _ _
                refine tr_seq (fun K23 hK23 => ?_)
                -- region 15: law.go:79
                refine tr_region ?_
                refine tr_val (ov_move rfl rfl) rfl rfl rfl ?_
                refine tr_val (ov_move rfl rfl) rfl rfl rfl ?_
                first | refine tr_split (t := 89) rfl (fun s89 => ?_) (fun s89 => ?_) | refine tr_splitb (t := 89) rfl (fun s89 => ?_) (fun s89 => ?_)
                · skip
                  refine tr_val (ov_move rfl rfl) rfl rfl rfl ?_
                  refine tr_val (ov_move rfl rfl) rfl rfl rfl ?_
                  refine tr_val (ov_move rfl rfl) rfl rfl rfl ?_
                  refine tr_val (ov_sub rfl rfl rfl (w64 (by omega))) rfl rfl rfl ?_
                  refine tr_val (ov_eql rfl rfl rfl) rfl rfl rfl ?_
                  refine tr_val (ov_pick (vb := undef) rfl rfl rfl rfl) rfl rfl rfl ?_
                  refine tr_val (ov_move rfl rfl) rfl rfl rfl ?_
                  first | refine tr_split (t := 96) rfl (fun s96 => ?_) (fun s96 => ?_) | refine tr_splitb (t := 96) rfl (fun s96 => ?_) (fun s96 => ?_)
                  · skip
                    refine tr_call (lives09_c _) rfl rfl rfl Try.call17 rfl rfl rfl ?_
                    rintro _ w16 ⟨rfl, HC⟩
                    have H := H.call0n HC
                    refine tr_val (ov_pick (vb := undef) rfl rfl rfl rfl) rfl rfl rfl ?_
                    refine tr_val (ov_assign rfl rfl) rfl rfl rfl ?_
                    refine tr_nil (hK23 _ _ (TrC.keep [6, 57, 56, 11, 55, 54, 10, 42, 7, 34, 0, 1, 2] ?_))
                    show TrC _ _ _ _ [(6, _), (57, _), (56, _), (11, _), (55, _), (54, _), (10, _), (42, _), (7, _), (34, _), (0, _), (1, _), (2, _)] _ _
                    refine tr_ret (post_ret1 (.inr rfl) rfl rfl ?_)
                    first | exact ⟨rfl, H⟩ | exact ⟨rfl, H.drop0⟩ | exact ⟨rfl, H.drop0.drop0⟩ | exact ⟨rfl, H.drop0.drop0.drop0⟩ | exact ⟨rfl, H.drop0.drop0.drop0.drop0⟩ | exact ⟨rfl, H.drop0.drop0.drop0.drop0.drop0⟩ | exact ⟨rfl, H.drop0.drop0.drop0.drop0.drop0.drop0⟩ | exact ⟨rfl, H.drop0.drop0.drop0.drop0.drop0.drop0.drop0⟩
                  · rw [sumL_end (by omega)] at hx
                    omega
                · cases s89

theorem nobody_back {w0 w : World} {F : Nat → Prop} {rs : List Res} {p q : Option Addr} {d : Nat} (h : (p = none ∧ q = some ⟨d, 0, none⟩) ∨ (p = some ⟨d, 0, none⟩ ∧ q = none)) (H : SH w0 F (alm p none [] :: alm q none [] :: rs) w) : SH w0 F (alm none none [] :: alm (some ⟨d, 0, none⟩) none [] :: rs) w := by
  rcases h with ⟨rfl, rfl⟩ | ⟨rfl, rfl⟩
  · exact H
  · exact H.top1

/-! curfew/curfewlaw09.AlmanacNobody -/
set_option maxRecDepth 20000 in
theorem AlmanacNobody_c (x a b : Int) (w : World) : Does Try.prog 7 #[.int .i64 x, .int .i64 a, .int .i64 b] w (fun v w' => v = .bool true ∧ SH w noBlocks [] w') := by
  refine does_enter3 Try.func7 rfl Try.ntmps7 rfl ?_
  have H := SH.start w noBlocks
  refine tr_seq (fun K1 hK1 => ?_)
  -- region 0: law.go:83
  refine tr_region ?_
  refine tr_val (ov_assign rfl rfl) rfl rfl rfl ?_
  refine tr_nil (hK1 _ _ (TrC.keep [6, 0, 1, 2] ?_))
  show TrC _ _ _ _ [(6, _), (0, _), (1, _), (2, _)] _ _
  refine tr_seq (fun K2 hK2 => ?_)
  refine tr_seq (fun K3 hK3 => ?_)
  -- region 1: law.go:84
  refine tr_region ?_
  refine tr_call (lives09_c _) rfl rfl rfl Try.call17 rfl rfl rfl ?_
  rintro _ w1 ⟨rfl, HC⟩
  have H := H.call0n HC
  first | refine tr_val (ov_not rfl rfl) rfl rfl rfl ?_ | refine tr_val (ov_notb rfl rfl) rfl rfl rfl ?_
  refine tr_nil (hK3 _ _ (TrC.keep [15, 6, 0, 1, 2] ?_))
  show TrC _ _ _ _ [(15, _), (6, _), (0, _), (1, _), (2, _)] _ _
  refine tr_cond_f rfl (rfl) ?_
  refine tr_skip (hK2 _ _ (TrC.keep [15, 6, 0, 1, 2] ?_))
  show TrC _ _ _ _ [(15, _), (6, _), (0, _), (1, _), (2, _)] _ _
  refine tr_seq (fun K4 hK4 => ?_)
  -- region 3: law.go:87
  refine tr_region ?_
  refine tr_val (ov_assign rfl rfl) rfl rfl rfl ?_
  refine tr_nil (hK4 _ _ (TrC.keep [7, 15, 6, 0, 1, 2] ?_))
  show TrC _ _ _ _ [(7, _), (15, _), (6, _), (0, _), (1, _), (2, _)] _ _
  refine tr_seq (fun K5 hK5 => ?_)
  refine tr_seq (fun K6 hK6 => ?_)
  -- region 4: law.go:88
  refine tr_region ?_
  refine tr_val (ov_move rfl rfl) rfl rfl rfl ?_
  refine tr_val (ov_build rfl (fun ρ k => bs0 k) (bld58 _)) rfl rfl rfl ?_
  refine tr_box H rfl rfl rfl rfl rfl rfl ?_
  intro d w2 hd H
  have H := H.addNil 40 2 encSpan
  have H := (H.upd0 (upd_rdr_of_vec (L := ([] : List Sp)) H.get0 lenSpan (by decide))).top1
  have H := alm_shut (L := []) (c := 0) (A := none) H (by simp)
  refine tr_buildSlice H rfl Try.underlying59 info34 rfl (fun ρ k => bs2 k rfl rfl) (by decide) (by decide) (fill_Ptr_2 _ _) rfl rfl rfl ?_
  intro bl w3 hb2 H
  have H := (H.addAlm).top2.top1
  refine tr_val (ov_len rfl rfl Try.underlying59 rfl) rfl rfl rfl ?_
  refine tr_val (ov_move rfl rfl) rfl rfl rfl ?_
  refine tr_nil (hK6 _ _ (TrC.keep [21, 20, 19, 15, 6, 0, 1, 2] ?_))
  show TrC _ _ _ _ [(21, _), (20, _), (19, _), (15, _), (6, _), (0, _), (1, _), (2, _)] _ _
  refine tr_block ?_
  refine tr_loop_ (X := Int) [20, 19, 15, 0, 1, 2] (fun i => [(21, .int .i64 i)]) (fun i w' => 0 ≤ i ∧ i ≤ 2 ∧ SH w noBlocks [alm none none [], alm (some ⟨d, 0, none⟩) none [], blk bl 34 [.pointer none, .pointer (some ⟨d, 0, none⟩)]] w') (fun i => (2 - i).toNat) (0) (Sub.cons rfl (Sub.cons rfl (Sub.cons rfl (Sub.cons rfl (Sub.cons rfl (Sub.cons rfl (Sub.cons rfl Sub.nil))))))) (⟨by omega, by omega, H⟩) ?_
  rintro i wL ⟨hi0, hi1, H⟩ K7 hK7
  show TrC _ _ _ _ [(21, _), (20, _), (19, _), (15, _), (0, _), (1, _), (2, _)] _ _
  refine tr_seq (fun K8 hK8 => ?_)
  -- region 5: law.go:88
  refine tr_region ?_
  refine tr_val (ov_lss rfl rfl rfl) rfl rfl rfl ?_
  refine tr_nil (hK8 _ _ (TrC.keep [22, 21, 20, 19, 15, 0, 1, 2] ?_))
  show TrC _ _ _ _ [(22, _), (21, _), (20, _), (19, _), (15, _), (0, _), (1, _), (2, _)] _ _
  refine tr_seq (fun K9 hK9 => ?_)
  first | refine tr_cond rfl (fun c22 => ?_) (fun c22 => ?_) | refine tr_condb rfl (fun c22 => ?_) (fun c22 => ?_)
  · skip
    refine tr_skip (hK9 _ _ (TrC.keep [22, 21, 20, 19, 15, 0, 1, 2] ?_))
    show TrC _ _ _ _ [(22, _), (21, _), (20, _), (19, _), (15, _), (0, _), (1, _), (2, _)] _ _
    refine tr_seq (fun K10 hK10 => ?_)
    refine tr_block ?_
    refine tr_seq (fun K11 hK11 => ?_)
    -- region 6: law.go:88
    refine tr_region ?_
    refine tr_val (ov_indexAddrR (rd_blk [none, some ⟨d, 0, none⟩] H.get2 rfl lenPtr) rfl Try.underlying59 (Try.sizeOf34 _) rfl rfl (by omega) (by omega)) rfl rfl rfl ?_
    refine tr_val (ld_Ptr (rd_blk [none, some ⟨d, 0, none⟩] H.get2 rfl lenPtr) rfl (Try.isAgg34 _) rfl (by omega) (by omega)) rfl rfl rfl ?_
    refine tr_val (ov_assign rfl rfl) rfl rfl rfl ?_
    refine tr_nil (hK11 _ _ (TrC.keep [9, 22, 21, 20, 19, 15, 0, 1, 2] ?_))
    show TrC _ _ _ _ [(9, _), (22, _), (21, _), (20, _), (19, _), (15, _), (0, _), (1, _), (2, _)] _ _
    refine tr_seq (fun K12 hK12 => ?_)
    -- region 7: law.go:89
    obtain ⟨p, q, hpg, hpq, H⟩ : ∃ p q, gt [none, some ⟨d, 0, none⟩] i = p ∧ ((p = none ∧ q = some ⟨d, 0, none⟩) ∨ (p = some ⟨d, 0, none⟩ ∧ q = none)) ∧ SH w noBlocks [alm p none [], alm q none [], blk bl 34 [.pointer none, .pointer (some ⟨d, 0, none⟩)]] wL := by
      have hi2 : i = 0 ∨ i = 1 := by omega
      rcases hi2 with rfl | rfl
      · exact ⟨none, some ⟨d, 0, none⟩, rfl, .inl ⟨rfl, rfl⟩, H⟩
      · exact ⟨some ⟨d, 0, none⟩, none, rfl, .inr ⟨rfl, rfl⟩, H.top1⟩
    rw [hpg]
    have hcut : cutV [] a b = [] := by unfold cutV; split <;> rfl
    have hfl : (freeV [] a b).length ≤ 33 := by have := free_len [] (max a 0) (min b 1125899906842624); unfold freeV; simp at this; omega
    refine tr_region ?_
    refine tr_val (ov_move rfl rfl) rfl rfl rfl ?_
    refine tr_val (ov_move rfl rfl) rfl rfl rfl ?_
    refine tr_call (Next_c p [] _ (alm_read H.get0) x (by decide)) rfl rfl rfl Try.call20 rfl rfl rfl ?_
    rintro _ w5 ⟨rfl, HC⟩
    have H := H.call0n HC
    refine tr_val (ov_move rfl rfl) rfl rfl rfl ?_
    refine tr_val (ov_extract rfl rfl rfl) rfl rfl rfl ?_
    refine tr_val (ov_extract rfl rfl rfl) rfl rfl rfl ?_
    refine tr_alloc H rfl (Try.zeroValue40 _) rfl rfl rfl rfl ?_
    intro b3 w6 hb3 H
    first | (refine tr_storeW H.get0 rfl (Try.sizeOf40 _) rfl rfl rfl rfl rfl rfl rfl rfl ?_; intro w7 U; have H := H.upd0 U; clear U) | (refine tr_storeW H.get1 rfl (Try.sizeOf40 _) rfl rfl rfl rfl rfl rfl rfl rfl ?_; intro w7 U; have H := H.upd1 U; clear U) | (refine tr_storeW H.get2 rfl (Try.sizeOf40 _) rfl rfl rfl rfl rfl rfl rfl rfl ?_; intro w7 U; have H := H.upd2 U; clear U) | (refine tr_storeW H.get3 rfl (Try.sizeOf40 _) rfl rfl rfl rfl rfl rfl rfl rfl ?_; intro w7 U; have H := H.upd3 U; clear U) | (refine tr_storeW H.get4 rfl (Try.sizeOf40 _) rfl rfl rfl rfl rfl rfl rfl rfl ?_; intro w7 U; have H := H.upd4 U; clear U) | (refine tr_storeW H.get5 rfl (Try.sizeOf40 _) rfl rfl rfl rfl rfl rfl rfl rfl ?_; intro w7 U; have H := H.upd5 U; clear U)
    refine tr_val (ov_assign rfl rfl) rfl rfl rfl ?_
    refine tr_nil (hK12 _ _ (TrC.keep [11, 9, 22, 21, 20, 19, 15, 0, 1, 2] ?_))
    show TrC _ _ _ _ [(11, _), (9, _), (22, _), (21, _), (20, _), (19, _), (15, _), (0, _), (1, _), (2, _)] _ _
    refine tr_seq (fun K13 hK13 => ?_)
    -- region 8: law.go:90
    have H := H.top1
    refine tr_region ?_
    refine tr_val (ov_move rfl rfl) rfl rfl rfl ?_
    refine tr_val (ov_move rfl rfl) rfl rfl rfl ?_
    refine tr_val (ov_move rfl rfl) rfl rfl rfl ?_
    refine tr_call (free_c p none [] a b _ H.get0 (by decide) rfl) rfl rfl rfl Try.call26 rfl rfl rfl ?_
    rintro _ w8 ⟨A5, c5, rfl, HC⟩
    have H := H.call1e HC
    refine tr_val (ov_move rfl rfl) rfl rfl rfl ?_
    refine tr_val (ov_extract rfl rfl rfl) rfl rfl rfl ?_
    refine tr_val (ov_extract rfl rfl rfl) rfl rfl rfl ?_
    refine tr_val (ov_assign rfl rfl) rfl rfl rfl ?_
    refine tr_val (ov_assign rfl rfl) rfl rfl rfl ?_
    refine tr_nil (hK13 _ _ (TrC.keep [13, 12, 11, 9, 22, 21, 20, 19, 15, 0, 1, 2] ?_))
    show TrC _ _ _ _ [(13, _), (12, _), (11, _), (9, _), (22, _), (21, _), (20, _), (19, _), (15, _), (0, _), (1, _), (2, _)] _ _
    refine tr_seq (fun K14 hK14 => ?_)
    -- region 9: law.go:91
    refine tr_region ?_
    refine tr_val (ov_move rfl rfl) rfl rfl rfl ?_
    refine tr_val (ov_move rfl rfl) rfl rfl rfl ?_
    refine tr_call (Closed_c p [] _ (alm_read H.get1) x (by decide)) rfl rfl rfl Try.call22 rfl rfl rfl ?_
    rintro _ w9 ⟨rfl, HC⟩
    have H := H.call0n HC
    refine tr_val (ov_move rfl rfl) rfl rfl rfl ?_
    first | refine tr_split (t := 41) rfl (fun s41 => ?_) (fun s41 => ?_) | refine tr_splitb (t := 41) rfl (fun s41 => ?_) (fun s41 => ?_)
    · cases s41
    · skip
      refine tr_val (ov_move rfl rfl) rfl rfl rfl ?_
      refine tr_val (ov_pick_f (va := undef) rfl rfl rfl rfl) rfl rfl rfl ?_
      refine tr_val (ov_move rfl rfl) rfl rfl rfl ?_
      first | refine tr_split (t := 44) rfl (fun s44 => ?_) (fun s44 => ?_) | refine tr_splitb (t := 44) rfl (fun s44 => ?_) (fun s44 => ?_)
      · cases s44
      · skip
        refine tr_val (ov_move rfl rfl) rfl rfl rfl ?_
        first | refine tr_val (ov_not rfl rfl) rfl rfl rfl ?_ | refine tr_val (ov_notb rfl rfl) rfl rfl rfl ?_
        refine tr_val (ov_pick_f (va := undef) rfl rfl rfl rfl) rfl rfl rfl ?_
        refine tr_val (ov_move rfl rfl) rfl rfl rfl ?_
        first | refine tr_split (t := 48) rfl (fun s48 => ?_) (fun s48 => ?_) | refine tr_splitb (t := 48) rfl (fun s48 => ?_) (fun s48 => ?_)
        · cases s48
        · skip
          refine tr_val (ov_move rfl rfl) rfl rfl rfl ?_
          refine tr_call (almRow_c p [] _ (alm_read H.get1) (by decide)) rfl rfl rfl Try.call25 rfl rfl rfl ?_
          rintro _ w10 ⟨A6, c6, rfl, HC⟩
          have H := H.call0r HC
          refine tr_val (ov_len rfl rfl Try.underlying33 rfl) rfl rfl rfl ?_
          refine tr_val (ov_neq rfl rfl rfl) rfl rfl rfl ?_
          refine tr_val (ov_pick_f (va := undef) rfl rfl rfl rfl) rfl rfl rfl ?_
          refine tr_val (ov_move rfl rfl) rfl rfl rfl ?_
          first | refine tr_split (t := 54) rfl (fun s54 => ?_) (fun s54 => ?_) | refine tr_splitb (t := 54) rfl (fun s54 => ?_) (fun s54 => ?_)
          · exact (s54 rfl).elim
          · skip
            refine tr_val (ov_move rfl rfl) rfl rfl rfl ?_
            refine tr_val (ov_move rfl rfl) rfl rfl rfl ?_
            refine tr_val (ov_move rfl rfl) rfl rfl rfl ?_
            refine tr_call (Lost_c p [] _ (alm_read H.get2) a b (by decide) 33 [] (fun _ => 1) Try.call33 (fun s w1 hs h => AN1_c s.1 s.2 w1)) rfl rfl rfl Try.call27 rfl rfl rfl ?_
            rintro _ w11 ⟨rfl, HC⟩
            have H := H.call0n HC
            refine tr_val (ov_neq rfl rfl rfl) rfl rfl rfl ?_
            refine tr_val (ov_pick_f (va := undef) rfl rfl rfl rfl) rfl rfl rfl ?_
            refine tr_val (ov_move rfl rfl) rfl rfl rfl ?_
            first | refine tr_split (t := 61) rfl (fun s61 => ?_) (fun s61 => ?_) | refine tr_splitb (t := 61) rfl (fun s61 => ?_) (fun s61 => ?_)
            · rw [hcut] at s61; exact (s61 rfl).elim
            · skip
              refine tr_val (ov_move rfl rfl) rfl rfl rfl ?_
              refine tr_val (ov_move rfl rfl) rfl rfl rfl ?_
              refine tr_val (ov_move rfl rfl) rfl rfl rfl ?_
              refine tr_call (FreeR_c none 0 [] _ Rd.nil (by decide) a b) rfl rfl rfl Try.call29 rfl rfl rfl ?_
              rintro _ w12 ⟨A7, c7, rfl, HC⟩
              have H := H.call0r HC
              refine tr_call (SameR_c A5 c5 (freeV [] a b) _ (vec_rd H.get2 lenSpan (by decide)) (by omega) A7 c7 (freeV [] a b) (vec_rd H.get0 lenSpan (by decide)) (by omega)) rfl rfl rfl Try.call24 rfl rfl rfl ?_
              rintro _ w13 ⟨rfl, HC⟩
              have H := H.call0n HC
              first | refine tr_val (ov_not rfl rfl) rfl rfl rfl ?_ | refine tr_val (ov_notb rfl rfl) rfl rfl rfl ?_
              refine tr_val (ov_pick_f (va := undef) rfl rfl rfl rfl) rfl rfl rfl ?_
              refine tr_nil (hK14 _ _ (TrC.keep [68, 9, 22, 21, 20, 19, 15, 0, 1, 2] ?_))
              show TrC _ _ _ _ [(68, _), (9, _), (22, _), (21, _), (20, _), (19, _), (15, _), (0, _), (1, _), (2, _)] _ _
              first | refine tr_cond rfl (fun c68 => ?_) (fun c68 => ?_) | refine tr_condb rfl (fun c68 => ?_) (fun c68 => ?_)
              · exact (c68 rfl).elim
              · skip
                refine tr_skip (hK10 _ _ (TrC.keep [68, 9, 22, 21, 20, 19, 15, 0, 1, 2] ?_))
                show TrC _ _ _ _ [(68, _), (9, _), (22, _), (21, _), (20, _), (19, _), (15, _), (0, _), (1, _), (2, _)] _ _
                -- region 11: law.go:88
                refine tr_region ?_
                refine tr_val (ov_add rfl rfl rfl (w64 (by omega))) rfl rfl rfl ?_
                refine tr_val (ov_move rfl rfl) rfl rfl rfl ?_
                have H := nobody_back hpq (show SH w noBlocks (alm p none [] :: alm q none [] :: _) _ from H.drop0.drop0.drop0.drop1)
                exact tr_nil (hK7 (i + 1) _ _ (⟨by omega, by omega, H⟩) (by first | omega | (dsimp only; omega)) (Sub.cons rfl (Sub.cons rfl (Sub.cons rfl (Sub.cons rfl (Sub.cons rfl (Sub.cons rfl (Sub.cons rfl Sub.nil))))))))
  · skip
    refine tr_exit (hK5 _ _ (TrC.keep [22, 21, 20, 19, 15, 0, 1, 2] ?_))
    show TrC _ _ _ _ [(22, _), (21, _), (20, _), (19, _), (15, _), (0, _), (1, _), (2, _)] _ _
    refine tr_seq (fun K15 hK15 => ?_)
    -- region 12: law.go:95
    refine tr_region ?_
    refine tr_val (ov_assign rfl rfl) rfl rfl rfl ?_
    refine tr_nil (hK15 _ _ (TrC.keep [6, 22, 21, 20, 19, 15, 0, 1, 2] ?_))
    show TrC _ _ _ _ [(6, _), (22, _), (21, _), (20, _), (19, _), (15, _), (0, _), (1, _), (2, _)] _ _
    refine tr_ret (post_ret1 (.inr rfl) rfl rfl ?_)
    first | exact ⟨rfl, H⟩ | exact ⟨rfl, H.drop0⟩ | exact ⟨rfl, H.drop0.drop0⟩ | exact ⟨rfl, H.drop0.drop0.drop0⟩ | exact ⟨rfl, H.drop0.drop0.drop0.drop0⟩ | exact ⟨rfl, H.drop0.drop0.drop0.drop0.drop0⟩ | exact ⟨rfl, H.drop0.drop0.drop0.drop0.drop0.drop0⟩ | exact ⟨rfl, H.drop0.drop0.drop0.drop0.drop0.drop0.drop0⟩

end Go.Proofs.Ytnmglobfdlnenaa
