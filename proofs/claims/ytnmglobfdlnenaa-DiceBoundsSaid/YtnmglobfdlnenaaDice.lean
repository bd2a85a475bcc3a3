/- Contracts of the package dice, and of what it calls. Conditions: none. -/
import Derived.Test.YtnmglobfdlnenaaDiceP
namespace Go.Proofs.Ytnmglobfdlnenaa
open Go Go.RowKit
set_option linter.unusedVariables false
set_option linter.unusedSimpArgs false

/-! bytes.Clone -/
set_option maxRecDepth 20000 in
theorem bytesClone_c (A : Option Addr) (c : Nat) (L : List Int) (w : World) (hR : Rd w A 1 (L.map encU8)) (hL : L.length ≤ 4294967296) : Does Try.prog 50 #[.slice A L.length c] w (fun v w' => ∃ A' c', v = .slice A' L.length c' ∧ SH w noBlocks [vec A' c' 5 1 encU8 L] w') := by
  refine does_enter1 Try.func50 rfl Try.ntmps50 rfl ?_
  have H := SH.start w noBlocks
  refine tr_seq (fun K1 hK1 => ?_)
  -- region 0: bytes.go:1391
  refine tr_region ?_
  refine tr_val (ov_assign rfl rfl) rfl rfl rfl ?_
  refine tr_nil (hK1 _ _ (TrC.keep [2, 0] ?_))
  show TrC _ _ _ _ [(2, _), (0, _)] _ _
  refine tr_seq (fun K2 hK2 => ?_)
  refine tr_seq (fun K3 hK3 => ?_)
  -- region 1: bytes.go:1392
  refine tr_region ?_
  refine tr_val (ov_move rfl rfl) rfl rfl rfl ?_
  refine tr_val (ov_seql_nil rfl Try.underlying22 rfl rfl) rfl rfl rfl ?_
  refine tr_nil (hK3 _ _ (TrC.keep [4, 2, 0] ?_))
  show TrC _ _ _ _ [(4, _), (2, _), (0, _)] _ _
  first | refine tr_cond rfl (fun c4 => ?_) (fun c4 => ?_) | refine tr_condb rfl (fun c4 => ?_) (fun c4 => ?_)
  · skip
    refine tr_seq (fun K4 hK4 => ?_)
    -- region 2: bytes.go:1393
    refine tr_region ?_
    refine tr_val (ov_assign rfl rfl) rfl rfl rfl ?_
    refine tr_nil (hK4 _ _ (TrC.keep [2, 4, 0] ?_))
    show TrC _ _ _ _ [(2, _), (4, _), (0, _)] _ _
    have hL0 := rd_none hR c4
    subst hL0
    refine tr_ret (post_ret1 (.inr rfl) rfl rfl ?_)
    exact ⟨none, 0, rfl, H.addNil 5 1 encU8⟩
  · skip
    refine tr_skip (hK2 _ _ (TrC.keep [4, 2, 0] ?_))
    show TrC _ _ _ _ [(4, _), (2, _), (0, _)] _ _
    refine tr_seq (fun K5 hK5 => ?_)
    -- region 3: bytes.go:1395
    refine tr_region ?_
    refine tr_buildSlice0 H rfl Try.underlying22 info5 rfl rfl rfl ?_
    intro b1 w1 hb1 H
    have H := H.upd0 (upd_vec_of_blk (L := ([] : List Int)) (enc := encU8) (sz := 1) H.get0 rfl lenU8 (by simp))
    refine tr_val (ov_move rfl rfl) rfl rfl rfl ?_
    refine tr_append H.get0 (H.rd0 hR) rfl rfl rfl Try.underlying22 info5 rfl rfl (show Try.t5.bytes = 1 from rfl) rfl (by decide) lenU8 oneU8 (by simp; omega) (by simp [maxLen]; omega) rfl rfl rfl ?_
    intro A' c' w1 U; have H := H.upd0 U; clear U
    refine tr_val (ov_assign rfl rfl) rfl rfl rfl ?_
    refine tr_nil (hK5 _ _ (TrC.keep [2, 4, 0] ?_))
    show TrC _ _ _ _ [(2, _), (4, _), (0, _)] _ _
    refine tr_ret (post_ret1 (.inr rfl) rfl rfl ?_)
    exact ⟨A', c', rfl, H⟩

/-! curfew/dice.New -/
set_option maxRecDepth 20000 in
theorem diceNew_c (A : Option Addr) (c : Nat) (L : List Int) (w : World) (hR : Rd w A 1 (L.map encU8)) (hL : L.length ≤ 4294967296) : Does Try.prog 13 #[.slice A L.length c] w (fun v w' => ∃ d g, v = .pointer (some ⟨d, 0, none⟩) ∧ SH w noBlocks [dice d g L] w') := by
  refine does_enter1 Try.func13 rfl Try.ntmps13 rfl ?_
  have H := SH.start w noBlocks
  refine tr_seq (fun K1 hK1 => ?_)
  -- region 0: dice.go:17
  refine tr_region ?_
  refine tr_val (ov_assign rfl rfl) rfl rfl rfl ?_
  refine tr_nil (hK1 _ _ (TrC.keep [2, 0] ?_))
  show TrC _ _ _ _ [(2, _), (0, _)] _ _
  refine tr_seq (fun K2 hK2 => ?_)
  -- region 1: dice.go:17
  refine tr_region ?_
  refine tr_val (ov_move rfl rfl) rfl rfl rfl ?_
  refine tr_call (bytesClone_c _ _ L _ (H.rd0 hR) hL) rfl rfl rfl Try.call50 rfl rfl rfl ?_
  rintro _ w1 ⟨A', c', rfl, HC⟩
  have H := H.call0r HC
  have hlen := vec_len H.get0
  have H := H.upd0 (upd_rdr_of_vec H.get0 lenU8 (by decide))
  refine tr_val (ov_build rfl (fun ρ k => bs1 k rfl) (bld77_0 _ _ _ _)) rfl rfl rfl ?_
  refine tr_box H rfl rfl rfl rfl rfl rfl ?_
  intro d w2 hd H
  have hne : A'.map (·.block) ≠ some d := by intro h; exact (List.pairwise_cons.mp H.disj).1 (rdr A' 1 (L.map encU8)) (by simp) d rfl (inRow_iff.mpr h)
  refine tr_val (ov_assign rfl rfl) rfl rfl rfl ?_
  refine tr_nil (hK2 _ _ (TrC.keep [2] ?_))
  show TrC _ _ _ _ [(2, _)] _ _
  refine tr_ret (post_ret1 (.inr rfl) rfl rfl ?_)
  exact ⟨d, _, rfl, dice_shut H hlen rfl hne⟩

/-! (*curfew/dice.Dice).take -/
set_option maxRecDepth 20000 in
theorem take_c (d : Nat) (g : Option Nat) (L : List Int) (w : World) (k : Int) (hD : (dice d g L).holds w) (hB : Bytes L) (hL : L.length ≤ 4294967296) (hk0 : 0 ≤ k) (hk8 : k ≤ 8) : Does Try.prog 51 #[.pointer (some ⟨d, 0, none⟩), .int .i64 k] w (fun v w' => v = .int .u64 (le (L.take k.toNat)) ∧ SH w (dice d g L).foot [dice d g (L.drop k.toNat)] w') := by
  refine does_enter2 Try.func51 rfl Try.ntmps51 rfl ?_
  have H := SH.own1 hD
  obtain ⟨A, c, hc, hg, hne, H⟩ := dice_open H
  obtain ⟨m, hm⟩ : ∃ m : Int, min k ↑L.length = m := ⟨_, rfl⟩
  refine tr_seq (fun K1 hK1 => ?_)
  -- region 0: dice.go:20
  refine tr_region ?_
  refine tr_val (ov_assign rfl rfl) rfl rfl rfl ?_
  refine tr_nil (hK1 _ _ (TrC.keep [4, 0, 1] ?_))
  show TrC _ _ _ _ [(4, _), (0, _), (1, _)] _ _
  refine tr_seq (fun K2 hK2 => ?_)
  refine tr_seq (fun K3 hK3 => ?_)
  -- region 1: dice.go:21
  refine tr_region ?_
  refine tr_val (ov_move rfl rfl) rfl rfl rfl ?_
  refine tr_val (ov_eql_nil rfl Try.underlying25 rfl rfl) rfl rfl rfl ?_
  refine tr_nil (hK3 _ _ (TrC.keep [7, 4, 0, 1] ?_))
  show TrC _ _ _ _ [(7, _), (4, _), (0, _), (1, _)] _ _
  refine tr_cond_f rfl (rfl) ?_
  refine tr_skip (hK2 _ _ (TrC.keep [7, 4, 0, 1] ?_))
  show TrC _ _ _ _ [(7, _), (4, _), (0, _), (1, _)] _ _
  refine tr_seq (fun K4 hK4 => ?_)
  -- region 3: dice.go:24
  refine tr_region ?_
  refine tr_val (ov_move rfl rfl) rfl rfl rfl ?_
  refine tr_val (ov_move rfl rfl) rfl rfl rfl ?_
  refine tr_val (ov_nilCheck rfl rfl) rfl rfl rfl ?_
  refine tr_val (ov_fieldAddr rfl Try.underlying77 rfl (Try.sizeOf22 _) (by decide) rfl) rfl rfl rfl ?_
  first | refine tr_val (ov_load_blk H.get0 rfl (Try.isAgg22 _) rfl rfl rfl) rfl rfl rfl ?_ | refine tr_val (ov_load_blk H.get1 rfl (Try.isAgg22 _) rfl rfl rfl) rfl rfl rfl ?_ | refine tr_val (ov_load_blk H.get2 rfl (Try.isAgg22 _) rfl rfl rfl) rfl rfl rfl ?_ | refine tr_val (ov_load_blk H.get3 rfl (Try.isAgg22 _) rfl rfl rfl) rfl rfl rfl ?_ | refine tr_val (ov_load_blk H.get4 rfl (Try.isAgg22 _) rfl rfl rfl) rfl rfl rfl ?_ | refine tr_val (ov_load_blk H.get5 rfl (Try.isAgg22 _) rfl rfl rfl) rfl rfl rfl ?_
  refine tr_val (ov_len rfl rfl Try.underlying22 rfl) rfl rfl rfl ?_
  refine tr_val (ov_eq (ov_min rfl rfl rfl) (congrArg (Value.int .i64) hm)) rfl rfl rfl ?_
  refine tr_val (ov_assign rfl rfl) rfl rfl rfl ?_
  refine tr_nil (hK4 _ _ (TrC.keep [1, 7, 4, 0] ?_))
  show TrC _ _ _ _ [(1, _), (7, _), (4, _), (0, _)] _ _
  refine tr_seq (fun K5 hK5 => ?_)
  refine tr_seq (fun K6 hK6 => ?_)
  -- region 4: dice.go:25
  refine tr_region ?_
  refine tr_val (ov_move rfl rfl) rfl rfl rfl ?_
  refine tr_val (ov_move rfl rfl) rfl rfl rfl ?_
  refine tr_nil (hK6 _ _ (TrC.keep [16, 15, 1, 7, 4, 0] ?_))
  show TrC _ _ _ _ [(16, _), (15, _), (1, _), (7, _), (4, _), (0, _)] _ _
  refine tr_block ?_
  refine tr_loop_ (X := Int) [15, 1, 7, 0] (fun i => [(4, .int .u64 (le (L.take i.toNat))), (16, .int .i64 i)]) (fun i w' => 0 ≤ i ∧ i ≤ m ∧ SH w (dice d g L).foot [blk d 77 [.slice A L.length c], rdr A 1 (L.map encU8)] w') (fun i => (m - i).toNat) (0) (Sub.cons rfl (Sub.cons rfl (Sub.cons rfl (Sub.cons rfl (Sub.cons rfl (Sub.cons rfl Sub.nil)))))) (⟨by omega, by omega, H⟩) ?_
  rintro i w1 ⟨hi0, him, H⟩ K7 hK7
  show TrC _ _ _ _ [(4, _), (16, _), (15, _), (1, _), (7, _), (0, _)] _ _
  refine tr_seq (fun K8 hK8 => ?_)
  -- region 5: dice.go:25
  refine tr_region ?_
  refine tr_val (ov_lss rfl rfl rfl) rfl rfl rfl ?_
  refine tr_nil (hK8 _ _ (TrC.keep [17, 4, 16, 15, 1, 7, 0] ?_))
  show TrC _ _ _ _ [(17, _), (4, _), (16, _), (15, _), (1, _), (7, _), (0, _)] _ _
  refine tr_seq (fun K9 hK9 => ?_)
  first | refine tr_cond rfl (fun c17 => ?_) (fun c17 => ?_) | refine tr_condb rfl (fun c17 => ?_) (fun c17 => ?_)
  · skip
    refine tr_skip (hK9 _ _ (TrC.keep [17, 4, 16, 15, 1, 7, 0] ?_))
    show TrC _ _ _ _ [(17, _), (4, _), (16, _), (15, _), (1, _), (7, _), (0, _)] _ _
    refine tr_seq (fun K10 hK10 => ?_)
    refine tr_block ?_
    refine tr_seq (fun K11 hK11 => ?_)
    -- region 6: dice.go:25
    refine tr_region ?_
    refine tr_val (ov_move rfl rfl) rfl rfl rfl ?_
    refine tr_val (ov_assign rfl rfl) rfl rfl rfl ?_
    refine tr_nil (hK11 _ _ (TrC.keep [5, 17, 4, 16, 15, 1, 7, 0] ?_))
    show TrC _ _ _ _ [(5, _), (17, _), (4, _), (16, _), (15, _), (1, _), (7, _), (0, _)] _ _
    -- region 7: dice.go:26
    have hgi := gt_bytes hB (i := i) (by omega) (by omega)
    refine tr_region ?_
    refine tr_val (ov_move rfl rfl) rfl rfl rfl ?_
    refine tr_val (ov_move rfl rfl) rfl rfl rfl ?_
    refine tr_val (ov_nilCheck rfl rfl) rfl rfl rfl ?_
    refine tr_val (ov_fieldAddr rfl Try.underlying77 rfl (Try.sizeOf22 _) (by decide) rfl) rfl rfl rfl ?_
    first | refine tr_val (ov_load_blk H.get0 rfl (Try.isAgg22 _) rfl rfl rfl) rfl rfl rfl ?_ | refine tr_val (ov_load_blk H.get1 rfl (Try.isAgg22 _) rfl rfl rfl) rfl rfl rfl ?_ | refine tr_val (ov_load_blk H.get2 rfl (Try.isAgg22 _) rfl rfl rfl) rfl rfl rfl ?_ | refine tr_val (ov_load_blk H.get3 rfl (Try.isAgg22 _) rfl rfl rfl) rfl rfl rfl ?_ | refine tr_val (ov_load_blk H.get4 rfl (Try.isAgg22 _) rfl rfl rfl) rfl rfl rfl ?_ | refine tr_val (ov_load_blk H.get5 rfl (Try.isAgg22 _) rfl rfl rfl) rfl rfl rfl ?_
    refine tr_val (ov_move rfl rfl) rfl rfl rfl ?_
    refine tr_val (ov_indexAddr rfl Try.underlying22 (Try.sizeOf5 _) rfl rfl (by omega) (by omega) (rd_some (rdr_rd H.get1) (by omega) (by omega))) rfl rfl rfl ?_
    refine tr_val (ld_U8 (rdr_rd H.get1) rfl (Try.isAgg5 _) rfl (by omega) (by omega)) rfl rfl rfl ?_
    refine tr_val (ov_conv rfl Try.underlying5 Try.underlying23 rfl (wu64 (by omega))) rfl rfl rfl ?_
    refine tr_val (ov_move rfl rfl) rfl rfl rfl ?_
    refine tr_val (ov_mul rfl rfl rfl (w64 (by omega))) rfl rfl rfl ?_
    refine tr_val (ov_shl rfl rfl rfl (by omega) (shl_byte' (by omega) (by omega) hgi.1 hgi.2)) rfl rfl rfl ?_
    refine tr_val (ov_or rfl rfl rfl (le_or _ _ i.toNat (by omega) (le_take_bd hB (by omega) (by omega)).1 (le_take_bd hB (by omega) (by omega)).2 hgi.1 hgi.2)) rfl rfl rfl ?_
    refine tr_val (ov_assign rfl rfl) rfl rfl rfl ?_
    refine tr_nil (hK10 _ _ (TrC.keep [4, 17, 16, 15, 1, 7, 0] ?_))
    show TrC _ _ _ _ [(4, _), (17, _), (16, _), (15, _), (1, _), (7, _), (0, _)] _ _
    -- region 8: dice.go:25
    refine tr_region ?_
    refine tr_val (ov_add rfl rfl rfl (w64 (by omega))) rfl rfl rfl ?_
    refine tr_val (ov_move rfl rfl) rfl rfl rfl ?_
    skip
    exact tr_nil (hK7 (i + 1) _ _ (⟨by omega, by omega, H⟩) (by first | omega | (dsimp only; omega)) (Sub.consE rfl (congrArg (Value.int .u64) (le_take (by omega) (by omega))) (Sub.cons rfl (Sub.cons rfl (Sub.cons rfl (Sub.cons rfl (Sub.cons rfl Sub.nil)))))))
  · skip
    refine tr_exit (hK5 _ _ (TrC.keep [17, 4, 16, 15, 1, 7, 0] ?_))
    show TrC _ _ _ _ [(17, _), (4, _), (16, _), (15, _), (1, _), (7, _), (0, _)] _ _
    refine tr_seq (fun K12 hK12 => ?_)
    -- region 9: dice.go:28
    refine tr_region ?_
    refine tr_val (ov_move rfl rfl) rfl rfl rfl ?_
    refine tr_val (ov_move rfl rfl) rfl rfl rfl ?_
    refine tr_val (ov_nilCheck rfl rfl) rfl rfl rfl ?_
    refine tr_val (ov_fieldAddr rfl Try.underlying77 rfl (Try.sizeOf22 _) (by decide) rfl) rfl rfl rfl ?_
    first | refine tr_val (ov_load_blk H.get0 rfl (Try.isAgg22 _) rfl rfl rfl) rfl rfl rfl ?_ | refine tr_val (ov_load_blk H.get1 rfl (Try.isAgg22 _) rfl rfl rfl) rfl rfl rfl ?_ | refine tr_val (ov_load_blk H.get2 rfl (Try.isAgg22 _) rfl rfl rfl) rfl rfl rfl ?_ | refine tr_val (ov_load_blk H.get3 rfl (Try.isAgg22 _) rfl rfl rfl) rfl rfl rfl ?_ | refine tr_val (ov_load_blk H.get4 rfl (Try.isAgg22 _) rfl rfl rfl) rfl rfl rfl ?_ | refine tr_val (ov_load_blk H.get5 rfl (Try.isAgg22 _) rfl rfl rfl) rfl rfl rfl ?_
    refine tr_val (ov_move rfl rfl) rfl rfl rfl ?_
    refine tr_val (ov_slice_lo rfl Try.underlying22 (Try.sizeOf5 _) rfl rfl (by omega) (by omega)) rfl rfl rfl ?_
    refine tr_val (ov_nilCheck rfl rfl) rfl rfl rfl ?_
    refine tr_val (ov_fieldAddr rfl Try.underlying77 rfl (Try.sizeOf22 _) (by decide) rfl) rfl rfl rfl ?_
    first | (refine tr_store H.get0 rfl (Try.sizeOf22 _) rfl rfl rfl rfl rfl rfl rfl ?_; intro w2 U; have H := H.upd0 U; clear U) | (refine tr_store H.get1 rfl (Try.sizeOf22 _) rfl rfl rfl rfl rfl rfl rfl ?_; intro w2 U; have H := H.upd1 U; clear U) | (refine tr_store H.get2 rfl (Try.sizeOf22 _) rfl rfl rfl rfl rfl rfl rfl ?_; intro w2 U; have H := H.upd2 U; clear U) | (refine tr_store H.get3 rfl (Try.sizeOf22 _) rfl rfl rfl rfl rfl rfl rfl ?_; intro w2 U; have H := H.upd3 U; clear U) | (refine tr_store H.get4 rfl (Try.sizeOf22 _) rfl rfl rfl rfl rfl rfl rfl ?_; intro w2 U; have H := H.upd4 U; clear U) | (refine tr_store H.get5 rfl (Try.sizeOf22 _) rfl rfl rfl rfl rfl rfl rfl ?_; intro w2 U; have H := H.upd5 U; clear U)
    try simp only [List.set_cons_zero, List.set_cons_succ, Nat.zero_add] at H
    refine tr_nil (hK12 _ _ (TrC.keep [17, 4, 16, 15, 1, 7, 0] ?_))
    show TrC _ _ _ _ [(17, _), (4, _), (16, _), (15, _), (1, _), (7, _), (0, _)] _ _
    refine tr_seq (fun K13 hK13 => ?_)
    -- region 10: dice.go:29
    refine tr_region ?_
    refine tr_val (ov_move rfl rfl) rfl rfl rfl ?_
    refine tr_val (ov_assign rfl rfl) rfl rfl rfl ?_
    refine tr_nil (hK13 _ _ (TrC.keep [4, 17, 16, 15, 1, 7, 0] ?_))
    show TrC _ _ _ _ [(4, _), (17, _), (16, _), (15, _), (1, _), (7, _), (0, _)] _ _
    have him' : i = m := by omega
    subst him'
    have hmin : k.toNat = i.toNat ∨ (L.length ≤ k.toNat ∧ L.length ≤ i.toNat) := by omega
    have ht : L.take k.toNat = L.take i.toNat := by
      rcases hmin with h | ⟨h1, h2⟩
      · rw [h]
      · rw [List.take_of_length_le h1, List.take_of_length_le h2]
    have hdr : L.drop k.toNat = L.drop i.toNat := by
      rcases hmin with h | ⟨h1, h2⟩
      · rw [h]
      · rw [List.drop_eq_nil_of_le h1, List.drop_eq_nil_of_le h2]
    refine tr_ret (post_ret1 (.inr rfl) rfl rfl ?_)
    rw [ht, hdr]
    have H := H.upd1 (upd_rdr_drop (c := c) (k := i.toNat) H.get1 (by simpa using hc))
    rw [← List.map_drop] at H
    exact ⟨rfl, by
      refine dice_shut (c := c - i.toNat) (A := if c = i.toNat then A else A.map (·.add (i.toNat * 1))) ?_ ?_ ?_ hne
      · simpa using H
      · simp; omega
      · rw [← hg]; split <;> simp [Option.map_map, Function.comp_def, add_block]⟩

/-! math/bits.Len64 -/
set_option maxRecDepth 20000 in
theorem Len64_c (x : Int) (w : World) (hx0 : 0 ≤ x) (hx : x ≤ 18446744073709551615) : Does Try.prog 52 #[.int .u64 x] w (fun v w' => v = .int .i64 (bitLen x.toNat) ∧ SH w noBlocks [] w') := by
  refine does_enter1 Try.func52 rfl Try.ntmps52 rfl ?_
  have H := SH.start w noBlocks
  refine tr_seq (fun K1 hK1 => ?_)
  -- region 0: bits.go:337
  refine tr_region ?_
  refine tr_val (ov_assign rfl rfl) rfl rfl rfl ?_
  refine tr_nil (hK1 _ _ (TrC.keep [2, 0] ?_))
  show TrC _ _ _ _ [(2, _), (0, _)] _ _
  refine tr_seq (fun K2 hK2 => ?_)
  refine tr_seq (fun K3 hK3 => ?_)
  -- region 1: bits.go:338
  refine tr_region ?_
  refine tr_val (ov_move rfl rfl) rfl rfl rfl ?_
  refine tr_val (ov_geq rfl rfl rfl) rfl rfl rfl ?_
  refine tr_nil (hK3 _ _ (TrC.keep [4, 2, 0] ?_))
  show TrC _ _ _ _ [(4, _), (2, _), (0, _)] _ _
  first | refine tr_cond rfl (fun c4 => ?_) (fun c4 => ?_) | refine tr_condb rfl (fun c4 => ?_) (fun c4 => ?_)
  · skip
    refine tr_seq (fun K4 hK4 => ?_)
    -- region 2: bits.go:339
    refine tr_region ?_
    refine tr_val (ov_move rfl rfl) rfl rfl rfl ?_
    refine tr_val (ov_shr rfl rfl rfl (by omega) (fdiv_lit _ _ 4294967296 (by decide) (by decide))) rfl rfl rfl ?_
    refine tr_val (ov_assign rfl rfl) rfl rfl rfl ?_
    refine tr_nil (hK4 _ _ (TrC.keep [0, 4, 2] ?_))
    show TrC _ _ _ _ [(0, _), (4, _), (2, _)] _ _
    -- region 3: bits.go:340
    refine tr_region ?_
    refine tr_val (ov_assign rfl rfl) rfl rfl rfl ?_
    refine tr_nil (hK2 _ _ (TrC.keep [2, 0, 4] ?_))
    show TrC _ _ _ _ [(2, _), (0, _), (4, _)] _ _
    refine tr_seq (fun K5 hK5 => ?_)
    refine tr_seq (fun K6 hK6 => ?_)
    -- region 4: bits.go:342
    refine tr_region ?_
    refine tr_val (ov_move rfl rfl) rfl rfl rfl ?_
    refine tr_val (ov_geq rfl rfl rfl) rfl rfl rfl ?_
    refine tr_nil (hK6 _ _ (TrC.keep [8, 2, 0, 4] ?_))
    show TrC _ _ _ _ [(8, _), (2, _), (0, _), (4, _)] _ _
    first | refine tr_cond rfl (fun c8 => ?_) (fun c8 => ?_) | refine tr_condb rfl (fun c8 => ?_) (fun c8 => ?_)
    · skip
      refine tr_seq (fun K7 hK7 => ?_)
      -- region 5: bits.go:343
      refine tr_region ?_
      refine tr_val (ov_move rfl rfl) rfl rfl rfl ?_
      refine tr_val (ov_shr rfl rfl rfl (by omega) (fdiv_lit _ _ 65536 (by decide) (by decide))) rfl rfl rfl ?_
      refine tr_val (ov_assign rfl rfl) rfl rfl rfl ?_
      refine tr_nil (hK7 _ _ (TrC.keep [0, 8, 2, 4] ?_))
      show TrC _ _ _ _ [(0, _), (8, _), (2, _), (4, _)] _ _
      -- region 6: bits.go:344
      refine tr_region ?_
      refine tr_val (ov_move rfl rfl) rfl rfl rfl ?_
      refine tr_val (ov_add rfl rfl rfl (w64 (by omega))) rfl rfl rfl ?_
      refine tr_val (ov_assign rfl rfl) rfl rfl rfl ?_
      refine tr_nil (hK5 _ _ (TrC.keep [2, 0, 8, 4] ?_))
      show TrC _ _ _ _ [(2, _), (0, _), (8, _), (4, _)] _ _
      refine tr_seq (fun K8 hK8 => ?_)
      refine tr_seq (fun K9 hK9 => ?_)
      -- region 7: bits.go:346
      refine tr_region ?_
      refine tr_val (ov_move rfl rfl) rfl rfl rfl ?_
      refine tr_val (ov_geq rfl rfl rfl) rfl rfl rfl ?_
      refine tr_nil (hK9 _ _ (TrC.keep [14, 2, 0, 8, 4] ?_))
      show TrC _ _ _ _ [(14, _), (2, _), (0, _), (8, _), (4, _)] _ _
      first | refine tr_cond rfl (fun c14 => ?_) (fun c14 => ?_) | refine tr_condb rfl (fun c14 => ?_) (fun c14 => ?_)
      · skip
        refine tr_seq (fun K10 hK10 => ?_)
        -- region 8: bits.go:347
        refine tr_region ?_
        refine tr_val (ov_move rfl rfl) rfl rfl rfl ?_
        refine tr_val (ov_shr rfl rfl rfl (by omega) (fdiv_lit _ _ 256 (by decide) (by decide))) rfl rfl rfl ?_
        refine tr_val (ov_assign rfl rfl) rfl rfl rfl ?_
        refine tr_nil (hK10 _ _ (TrC.keep [0, 14, 2, 8, 4] ?_))
        show TrC _ _ _ _ [(0, _), (14, _), (2, _), (8, _), (4, _)] _ _
        -- region 9: bits.go:348
        refine tr_region ?_
        refine tr_val (ov_move rfl rfl) rfl rfl rfl ?_
        refine tr_val (ov_add rfl rfl rfl (w64 (by omega))) rfl rfl rfl ?_
        refine tr_val (ov_assign rfl rfl) rfl rfl rfl ?_
        refine tr_nil (hK8 _ _ (TrC.keep [2, 0, 14, 8, 4] ?_))
        show TrC _ _ _ _ [(2, _), (0, _), (14, _), (8, _), (4, _)] _ _
        refine tr_seq (fun K11 hK11 => ?_)
        -- region 10: bits.go:350
        refine tr_region ?_
        refine tr_val (ov_move rfl rfl) rfl rfl rfl ?_
        refine tr_val (ov_move rfl rfl) rfl rfl rfl ?_
        refine tr_val (ov_conv rfl Try.underlying23 Try.underlying5 rfl (wu8 (by omega))) rfl rfl rfl ?_
        refine tr_val (ov_eq (ov_indexS_ rfl Try.underlying9 rfl rfl (by omega) (by show _ < 256; omega)) (congrArg (fun n : Nat => Value.int .u8 n) (len8tab_get _ _))) rfl rfl rfl ?_
        refine tr_val (ov_conv rfl Try.underlying5 Try.underlying3 rfl (w64 (bl_rng (by omega)))) rfl rfl rfl ?_
        refine tr_val (ov_add rfl rfl rfl (w64 (bl_add (by omega) (by omega)))) rfl rfl rfl ?_
        refine tr_val (ov_assign rfl rfl) rfl rfl rfl ?_
        refine tr_nil (hK11 _ _ (TrC.keep [2, 0, 14, 8, 4] ?_))
        show TrC _ _ _ _ [(2, _), (0, _), (14, _), (8, _), (4, _)] _ _
        refine tr_ret (post_ret1 (.inr rfl) rfl rfl ?_)
        have e32 := bl_step (x) 32 32 4294967296 (by decide) (by decide) (by omega)
        have e16 := bl_step (x / 4294967296) 16 16 65536 (by decide) (by decide) (by omega)
        have e8 := bl_step ((x / 4294967296) / 65536) 8 8 256 (by decide) (by decide) (by omega)
        refine ⟨congrArg (Value.int .i64) ?_, H⟩
        omega
      · skip
        refine tr_skip (hK8 _ _ (TrC.keep [14, 2, 0, 8, 4] ?_))
        show TrC _ _ _ _ [(14, _), (2, _), (0, _), (8, _), (4, _)] _ _
        refine tr_seq (fun K12 hK12 => ?_)
        -- region 10: bits.go:350
        refine tr_region ?_
        refine tr_val (ov_move rfl rfl) rfl rfl rfl ?_
        refine tr_val (ov_move rfl rfl) rfl rfl rfl ?_
        refine tr_val (ov_conv rfl Try.underlying23 Try.underlying5 rfl (wu8 (by omega))) rfl rfl rfl ?_
        refine tr_val (ov_eq (ov_indexS_ rfl Try.underlying9 rfl rfl (by omega) (by show _ < 256; omega)) (congrArg (fun n : Nat => Value.int .u8 n) (len8tab_get _ _))) rfl rfl rfl ?_
        refine tr_val (ov_conv rfl Try.underlying5 Try.underlying3 rfl (w64 (bl_rng (by omega)))) rfl rfl rfl ?_
        refine tr_val (ov_add rfl rfl rfl (w64 (bl_add (by omega) (by omega)))) rfl rfl rfl ?_
        refine tr_val (ov_assign rfl rfl) rfl rfl rfl ?_
        refine tr_nil (hK12 _ _ (TrC.keep [2, 14, 0, 8, 4] ?_))
        show TrC _ _ _ _ [(2, _), (14, _), (0, _), (8, _), (4, _)] _ _
        refine tr_ret (post_ret1 (.inr rfl) rfl rfl ?_)
        have e32 := bl_step (x) 32 32 4294967296 (by decide) (by decide) (by omega)
        have e16 := bl_step (x / 4294967296) 16 16 65536 (by decide) (by decide) (by omega)
        refine ⟨congrArg (Value.int .i64) ?_, H⟩
        omega
    · skip
      refine tr_skip (hK5 _ _ (TrC.keep [8, 2, 0, 4] ?_))
      show TrC _ _ _ _ [(8, _), (2, _), (0, _), (4, _)] _ _
      refine tr_seq (fun K13 hK13 => ?_)
      refine tr_seq (fun K14 hK14 => ?_)
      -- region 7: bits.go:346
      refine tr_region ?_
      refine tr_val (ov_move rfl rfl) rfl rfl rfl ?_
      refine tr_val (ov_geq rfl rfl rfl) rfl rfl rfl ?_
      refine tr_nil (hK14 _ _ (TrC.keep [14, 8, 2, 0, 4] ?_))
      show TrC _ _ _ _ [(14, _), (8, _), (2, _), (0, _), (4, _)] _ _
      first | refine tr_cond rfl (fun c14 => ?_) (fun c14 => ?_) | refine tr_condb rfl (fun c14 => ?_) (fun c14 => ?_)
      · skip
        refine tr_seq (fun K15 hK15 => ?_)
        -- region 8: bits.go:347
        refine tr_region ?_
        refine tr_val (ov_move rfl rfl) rfl rfl rfl ?_
        refine tr_val (ov_shr rfl rfl rfl (by omega) (fdiv_lit _ _ 256 (by decide) (by decide))) rfl rfl rfl ?_
        refine tr_val (ov_assign rfl rfl) rfl rfl rfl ?_
        refine tr_nil (hK15 _ _ (TrC.keep [0, 14, 8, 2, 4] ?_))
        show TrC _ _ _ _ [(0, _), (14, _), (8, _), (2, _), (4, _)] _ _
        -- region 9: bits.go:348
        refine tr_region ?_
        refine tr_val (ov_move rfl rfl) rfl rfl rfl ?_
        refine tr_val (ov_add rfl rfl rfl (w64 (by omega))) rfl rfl rfl ?_
        refine tr_val (ov_assign rfl rfl) rfl rfl rfl ?_
        refine tr_nil (hK13 _ _ (TrC.keep [2, 0, 14, 8, 4] ?_))
        show TrC _ _ _ _ [(2, _), (0, _), (14, _), (8, _), (4, _)] _ _
        refine tr_seq (fun K16 hK16 => ?_)
        -- region 10: bits.go:350
        refine tr_region ?_
        refine tr_val (ov_move rfl rfl) rfl rfl rfl ?_
        refine tr_val (ov_move rfl rfl) rfl rfl rfl ?_
        refine tr_val (ov_conv rfl Try.underlying23 Try.underlying5 rfl (wu8 (by omega))) rfl rfl rfl ?_
        refine tr_val (ov_eq (ov_indexS_ rfl Try.underlying9 rfl rfl (by omega) (by show _ < 256; omega)) (congrArg (fun n : Nat => Value.int .u8 n) (len8tab_get _ _))) rfl rfl rfl ?_
        refine tr_val (ov_conv rfl Try.underlying5 Try.underlying3 rfl (w64 (bl_rng (by omega)))) rfl rfl rfl ?_
        refine tr_val (ov_add rfl rfl rfl (w64 (bl_add (by omega) (by omega)))) rfl rfl rfl ?_
        refine tr_val (ov_assign rfl rfl) rfl rfl rfl ?_
        refine tr_nil (hK16 _ _ (TrC.keep [2, 0, 14, 8, 4] ?_))
        show TrC _ _ _ _ [(2, _), (0, _), (14, _), (8, _), (4, _)] _ _
        refine tr_ret (post_ret1 (.inr rfl) rfl rfl ?_)
        have e32 := bl_step (x) 32 32 4294967296 (by decide) (by decide) (by omega)
        have e8 := bl_step (x / 4294967296) 8 8 256 (by decide) (by decide) (by omega)
        refine ⟨congrArg (Value.int .i64) ?_, H⟩
        omega
      · skip
        refine tr_skip (hK13 _ _ (TrC.keep [14, 8, 2, 0, 4] ?_))
        show TrC _ _ _ _ [(14, _), (8, _), (2, _), (0, _), (4, _)] _ _
        refine tr_seq (fun K17 hK17 => ?_)
        -- region 10: bits.go:350
        refine tr_region ?_
        refine tr_val (ov_move rfl rfl) rfl rfl rfl ?_
        refine tr_val (ov_move rfl rfl) rfl rfl rfl ?_
        refine tr_val (ov_conv rfl Try.underlying23 Try.underlying5 rfl (wu8 (by omega))) rfl rfl rfl ?_
        refine tr_val (ov_eq (ov_indexS_ rfl Try.underlying9 rfl rfl (by omega) (by show _ < 256; omega)) (congrArg (fun n : Nat => Value.int .u8 n) (len8tab_get _ _))) rfl rfl rfl ?_
        refine tr_val (ov_conv rfl Try.underlying5 Try.underlying3 rfl (w64 (bl_rng (by omega)))) rfl rfl rfl ?_
        refine tr_val (ov_add rfl rfl rfl (w64 (bl_add (by omega) (by omega)))) rfl rfl rfl ?_
        refine tr_val (ov_assign rfl rfl) rfl rfl rfl ?_
        refine tr_nil (hK17 _ _ (TrC.keep [2, 14, 8, 0, 4] ?_))
        show TrC _ _ _ _ [(2, _), (14, _), (8, _), (0, _), (4, _)] _ _
        refine tr_ret (post_ret1 (.inr rfl) rfl rfl ?_)
        have e32 := bl_step (x) 32 32 4294967296 (by decide) (by decide) (by omega)
        refine ⟨congrArg (Value.int .i64) ?_, H⟩
        omega
  · skip
    refine tr_skip (hK2 _ _ (TrC.keep [4, 2, 0] ?_))
    show TrC _ _ _ _ [(4, _), (2, _), (0, _)] _ _
    refine tr_seq (fun K18 hK18 => ?_)
    refine tr_seq (fun K19 hK19 => ?_)
    -- region 4: bits.go:342
    refine tr_region ?_
    refine tr_val (ov_move rfl rfl) rfl rfl rfl ?_
    refine tr_val (ov_geq rfl rfl rfl) rfl rfl rfl ?_
    refine tr_nil (hK19 _ _ (TrC.keep [8, 4, 2, 0] ?_))
    show TrC _ _ _ _ [(8, _), (4, _), (2, _), (0, _)] _ _
    first | refine tr_cond rfl (fun c8 => ?_) (fun c8 => ?_) | refine tr_condb rfl (fun c8 => ?_) (fun c8 => ?_)
    · skip
      refine tr_seq (fun K20 hK20 => ?_)
      -- region 5: bits.go:343
      refine tr_region ?_
      refine tr_val (ov_move rfl rfl) rfl rfl rfl ?_
      refine tr_val (ov_shr rfl rfl rfl (by omega) (fdiv_lit _ _ 65536 (by decide) (by decide))) rfl rfl rfl ?_
      refine tr_val (ov_assign rfl rfl) rfl rfl rfl ?_
      refine tr_nil (hK20 _ _ (TrC.keep [0, 8, 4, 2] ?_))
      show TrC _ _ _ _ [(0, _), (8, _), (4, _), (2, _)] _ _
      -- region 6: bits.go:344
      refine tr_region ?_
      refine tr_val (ov_move rfl rfl) rfl rfl rfl ?_
      refine tr_val (ov_add rfl rfl rfl (w64 (by omega))) rfl rfl rfl ?_
      refine tr_val (ov_assign rfl rfl) rfl rfl rfl ?_
      refine tr_nil (hK18 _ _ (TrC.keep [2, 0, 8, 4] ?_))
      show TrC _ _ _ _ [(2, _), (0, _), (8, _), (4, _)] _ _
      refine tr_seq (fun K21 hK21 => ?_)
      refine tr_seq (fun K22 hK22 => ?_)
      -- region 7: bits.go:346
      refine tr_region ?_
      refine tr_val (ov_move rfl rfl) rfl rfl rfl ?_
      refine tr_val (ov_geq rfl rfl rfl) rfl rfl rfl ?_
      refine tr_nil (hK22 _ _ (TrC.keep [14, 2, 0, 8, 4] ?_))
      show TrC _ _ _ _ [(14, _), (2, _), (0, _), (8, _), (4, _)] _ _
      first | refine tr_cond rfl (fun c14 => ?_) (fun c14 => ?_) | refine tr_condb rfl (fun c14 => ?_) (fun c14 => ?_)
      · skip
        refine tr_seq (fun K23 hK23 => ?_)
        -- region 8: bits.go:347
        refine tr_region ?_
        refine tr_val (ov_move rfl rfl) rfl rfl rfl ?_
        refine tr_val (ov_shr rfl rfl rfl (by omega) (fdiv_lit _ _ 256 (by decide) (by decide))) rfl rfl rfl ?_
        refine tr_val (ov_assign rfl rfl) rfl rfl rfl ?_
        refine tr_nil (hK23 _ _ (TrC.keep [0, 14, 2, 8, 4] ?_))
        show TrC _ _ _ _ [(0, _), (14, _), (2, _), (8, _), (4, _)] _ _
        -- region 9: bits.go:348
        refine tr_region ?_
        refine tr_val (ov_move rfl rfl) rfl rfl rfl ?_
        refine tr_val (ov_add rfl rfl rfl (w64 (by omega))) rfl rfl rfl ?_
        refine tr_val (ov_assign rfl rfl) rfl rfl rfl ?_
        refine tr_nil (hK21 _ _ (TrC.keep [2, 0, 14, 8, 4] ?_))
        show TrC _ _ _ _ [(2, _), (0, _), (14, _), (8, _), (4, _)] _ _
        refine tr_seq (fun K24 hK24 => ?_)
        -- region 10: bits.go:350
        refine tr_region ?_
        refine tr_val (ov_move rfl rfl) rfl rfl rfl ?_
        refine tr_val (ov_move rfl rfl) rfl rfl rfl ?_
        refine tr_val (ov_conv rfl Try.underlying23 Try.underlying5 rfl (wu8 (by omega))) rfl rfl rfl ?_
        refine tr_val (ov_eq (ov_indexS_ rfl Try.underlying9 rfl rfl (by omega) (by show _ < 256; omega)) (congrArg (fun n : Nat => Value.int .u8 n) (len8tab_get _ _))) rfl rfl rfl ?_
        refine tr_val (ov_conv rfl Try.underlying5 Try.underlying3 rfl (w64 (bl_rng (by omega)))) rfl rfl rfl ?_
        refine tr_val (ov_add rfl rfl rfl (w64 (bl_add (by omega) (by omega)))) rfl rfl rfl ?_
        refine tr_val (ov_assign rfl rfl) rfl rfl rfl ?_
        refine tr_nil (hK24 _ _ (TrC.keep [2, 0, 14, 8, 4] ?_))
        show TrC _ _ _ _ [(2, _), (0, _), (14, _), (8, _), (4, _)] _ _
        refine tr_ret (post_ret1 (.inr rfl) rfl rfl ?_)
        have e16 := bl_step (x) 16 16 65536 (by decide) (by decide) (by omega)
        have e8 := bl_step (x / 65536) 8 8 256 (by decide) (by decide) (by omega)
        refine ⟨congrArg (Value.int .i64) ?_, H⟩
        omega
      · skip
        refine tr_skip (hK21 _ _ (TrC.keep [14, 2, 0, 8, 4] ?_))
        show TrC _ _ _ _ [(14, _), (2, _), (0, _), (8, _), (4, _)] _ _
        refine tr_seq (fun K25 hK25 => ?_)
        -- region 10: bits.go:350
        refine tr_region ?_
        refine tr_val (ov_move rfl rfl) rfl rfl rfl ?_
        refine tr_val (ov_move rfl rfl) rfl rfl rfl ?_
        refine tr_val (ov_conv rfl Try.underlying23 Try.underlying5 rfl (wu8 (by omega))) rfl rfl rfl ?_
        refine tr_val (ov_eq (ov_indexS_ rfl Try.underlying9 rfl rfl (by omega) (by show _ < 256; omega)) (congrArg (fun n : Nat => Value.int .u8 n) (len8tab_get _ _))) rfl rfl rfl ?_
        refine tr_val (ov_conv rfl Try.underlying5 Try.underlying3 rfl (w64 (bl_rng (by omega)))) rfl rfl rfl ?_
        refine tr_val (ov_add rfl rfl rfl (w64 (bl_add (by omega) (by omega)))) rfl rfl rfl ?_
        refine tr_val (ov_assign rfl rfl) rfl rfl rfl ?_
        refine tr_nil (hK25 _ _ (TrC.keep [2, 14, 0, 8, 4] ?_))
        show TrC _ _ _ _ [(2, _), (14, _), (0, _), (8, _), (4, _)] _ _
        refine tr_ret (post_ret1 (.inr rfl) rfl rfl ?_)
        have e16 := bl_step (x) 16 16 65536 (by decide) (by decide) (by omega)
        refine ⟨congrArg (Value.int .i64) ?_, H⟩
        omega
    · skip
      refine tr_skip (hK18 _ _ (TrC.keep [8, 4, 2, 0] ?_))
      show TrC _ _ _ _ [(8, _), (4, _), (2, _), (0, _)] _ _
      refine tr_seq (fun K26 hK26 => ?_)
      refine tr_seq (fun K27 hK27 => ?_)
      -- region 7: bits.go:346
      refine tr_region ?_
      refine tr_val (ov_move rfl rfl) rfl rfl rfl ?_
      refine tr_val (ov_geq rfl rfl rfl) rfl rfl rfl ?_
      refine tr_nil (hK27 _ _ (TrC.keep [14, 8, 4, 2, 0] ?_))
      show TrC _ _ _ _ [(14, _), (8, _), (4, _), (2, _), (0, _)] _ _
      first | refine tr_cond rfl (fun c14 => ?_) (fun c14 => ?_) | refine tr_condb rfl (fun c14 => ?_) (fun c14 => ?_)
      · skip
        refine tr_seq (fun K28 hK28 => ?_)
        -- region 8: bits.go:347
        refine tr_region ?_
        refine tr_val (ov_move rfl rfl) rfl rfl rfl ?_
        refine tr_val (ov_shr rfl rfl rfl (by omega) (fdiv_lit _ _ 256 (by decide) (by decide))) rfl rfl rfl ?_
        refine tr_val (ov_assign rfl rfl) rfl rfl rfl ?_
        refine tr_nil (hK28 _ _ (TrC.keep [0, 14, 8, 4, 2] ?_))
        show TrC _ _ _ _ [(0, _), (14, _), (8, _), (4, _), (2, _)] _ _
        -- region 9: bits.go:348
        refine tr_region ?_
        refine tr_val (ov_move rfl rfl) rfl rfl rfl ?_
        refine tr_val (ov_add rfl rfl rfl (w64 (by omega))) rfl rfl rfl ?_
        refine tr_val (ov_assign rfl rfl) rfl rfl rfl ?_
        refine tr_nil (hK26 _ _ (TrC.keep [2, 0, 14, 8, 4] ?_))
        show TrC _ _ _ _ [(2, _), (0, _), (14, _), (8, _), (4, _)] _ _
        refine tr_seq (fun K29 hK29 => ?_)
        -- region 10: bits.go:350
        refine tr_region ?_
        refine tr_val (ov_move rfl rfl) rfl rfl rfl ?_
        refine tr_val (ov_move rfl rfl) rfl rfl rfl ?_
        refine tr_val (ov_conv rfl Try.underlying23 Try.underlying5 rfl (wu8 (by omega))) rfl rfl rfl ?_
        refine tr_val (ov_eq (ov_indexS_ rfl Try.underlying9 rfl rfl (by omega) (by show _ < 256; omega)) (congrArg (fun n : Nat => Value.int .u8 n) (len8tab_get _ _))) rfl rfl rfl ?_
        refine tr_val (ov_conv rfl Try.underlying5 Try.underlying3 rfl (w64 (bl_rng (by omega)))) rfl rfl rfl ?_
        refine tr_val (ov_add rfl rfl rfl (w64 (bl_add (by omega) (by omega)))) rfl rfl rfl ?_
        refine tr_val (ov_assign rfl rfl) rfl rfl rfl ?_
        refine tr_nil (hK29 _ _ (TrC.keep [2, 0, 14, 8, 4] ?_))
        show TrC _ _ _ _ [(2, _), (0, _), (14, _), (8, _), (4, _)] _ _
        refine tr_ret (post_ret1 (.inr rfl) rfl rfl ?_)
        have e8 := bl_step (x) 8 8 256 (by decide) (by decide) (by omega)
        refine ⟨congrArg (Value.int .i64) ?_, H⟩
        omega
      · skip
        refine tr_skip (hK26 _ _ (TrC.keep [14, 8, 4, 2, 0] ?_))
        show TrC _ _ _ _ [(14, _), (8, _), (4, _), (2, _), (0, _)] _ _
        refine tr_seq (fun K30 hK30 => ?_)
        -- region 10: bits.go:350
        refine tr_region ?_
        refine tr_val (ov_move rfl rfl) rfl rfl rfl ?_
        refine tr_val (ov_move rfl rfl) rfl rfl rfl ?_
        refine tr_val (ov_conv rfl Try.underlying23 Try.underlying5 rfl (wu8 (by omega))) rfl rfl rfl ?_
        refine tr_val (ov_eq (ov_indexS_ rfl Try.underlying9 rfl rfl (by omega) (by show _ < 256; omega)) (congrArg (fun n : Nat => Value.int .u8 n) (len8tab_get _ _))) rfl rfl rfl ?_
        refine tr_val (ov_conv rfl Try.underlying5 Try.underlying3 rfl (w64 (bl_rng (by omega)))) rfl rfl rfl ?_
        refine tr_val (ov_add rfl rfl rfl (w64 (bl_add (by omega) (by omega)))) rfl rfl rfl ?_
        refine tr_val (ov_assign rfl rfl) rfl rfl rfl ?_
        refine tr_nil (hK30 _ _ (TrC.keep [2, 14, 8, 4, 0] ?_))
        show TrC _ _ _ _ [(2, _), (14, _), (8, _), (4, _), (0, _)] _ _
        refine tr_ret (post_ret1 (.inr rfl) rfl rfl ?_)
        refine ⟨congrArg (Value.int .i64) ?_, H⟩
        omega

/-! (*curfew/dice.Dice).Left -/
set_option maxRecDepth 20000 in
theorem Left_c (d : Nat) (g : Option Nat) (L : List Int) (w : World) (hD : (dice d g L).holds w) : Does Try.prog 49 #[.pointer (some ⟨d, 0, none⟩)] w (fun v w' => v = .int .i64 L.length ∧ SH w (dice d g L).foot [dice d g L] w') := by
  refine does_enter1 Try.func49 rfl Try.ntmps49 rfl ?_
  have H := SH.own1 hD
  obtain ⟨A, c, hc, hg, hne, H⟩ := dice_open H
  refine tr_seq (fun K1 hK1 => ?_)
  -- region 0: dice.go:71
  refine tr_region ?_
  refine tr_val (ov_assign rfl rfl) rfl rfl rfl ?_
  refine tr_nil (hK1 _ _ (TrC.keep [2, 0] ?_))
  show TrC _ _ _ _ [(2, _), (0, _)] _ _
  refine tr_seq (fun K2 hK2 => ?_)
  refine tr_seq (fun K3 hK3 => ?_)
  -- region 1: dice.go:72
  refine tr_region ?_
  refine tr_val (ov_move rfl rfl) rfl rfl rfl ?_
  refine tr_val (ov_eql_nil rfl Try.underlying25 rfl rfl) rfl rfl rfl ?_
  refine tr_nil (hK3 _ _ (TrC.keep [4, 2, 0] ?_))
  show TrC _ _ _ _ [(4, _), (2, _), (0, _)] _ _
  refine tr_cond_f rfl (rfl) ?_
  refine tr_skip (hK2 _ _ (TrC.keep [4, 2, 0] ?_))
  show TrC _ _ _ _ [(4, _), (2, _), (0, _)] _ _
  refine tr_seq (fun K4 hK4 => ?_)
  -- region 3: dice.go:75
  refine tr_region ?_
  refine tr_val (ov_move rfl rfl) rfl rfl rfl ?_
  refine tr_val (ov_nilCheck rfl rfl) rfl rfl rfl ?_
  refine tr_val (ov_fieldAddr rfl Try.underlying77 rfl (Try.sizeOf22 _) (by decide) rfl) rfl rfl rfl ?_
  first | refine tr_val (ov_load_blk H.get0 rfl (Try.isAgg22 _) rfl rfl rfl) rfl rfl rfl ?_ | refine tr_val (ov_load_blk H.get1 rfl (Try.isAgg22 _) rfl rfl rfl) rfl rfl rfl ?_ | refine tr_val (ov_load_blk H.get2 rfl (Try.isAgg22 _) rfl rfl rfl) rfl rfl rfl ?_ | refine tr_val (ov_load_blk H.get3 rfl (Try.isAgg22 _) rfl rfl rfl) rfl rfl rfl ?_ | refine tr_val (ov_load_blk H.get4 rfl (Try.isAgg22 _) rfl rfl rfl) rfl rfl rfl ?_ | refine tr_val (ov_load_blk H.get5 rfl (Try.isAgg22 _) rfl rfl rfl) rfl rfl rfl ?_
  refine tr_val (ov_len rfl rfl Try.underlying22 rfl) rfl rfl rfl ?_
  refine tr_val (ov_assign rfl rfl) rfl rfl rfl ?_
  refine tr_nil (hK4 _ _ (TrC.keep [2, 4, 0] ?_))
  show TrC _ _ _ _ [(2, _), (4, _), (0, _)] _ _
  refine tr_ret (post_ret1 (.inr rfl) rfl rfl ?_)
  exact ⟨rfl, dice_shut H hc hg hne⟩

/-! (*curfew/dice.Dice).Below -/
set_option maxRecDepth 20000 in
theorem Below_c (d : Nat) (g : Option Nat) (L : List Int) (w : World) (n : Int) (hD : (dice d g L).holds w) (hB : Bytes L) (hL : L.length ≤ 4294967296) (hn0 : 0 ≤ n) (hn : n ≤ 18446744073709551615) : Does Try.prog 14 #[.pointer (some ⟨d, 0, none⟩), .int .u64 n] w (fun v w' => v = .int .u64 (belowV L n) ∧ SH w (dice d g L).foot [dice d g (L.drop (belowK n))] w') := by
  refine does_enter2 Try.func14 rfl Try.ntmps14 rfl ?_
  have H := SH.own1 hD
  refine tr_seq (fun K1 hK1 => ?_)
  -- region 0: dice.go:33
  refine tr_region ?_
  refine tr_val (ov_assign rfl rfl) rfl rfl rfl ?_
  refine tr_nil (hK1 _ _ (TrC.keep [4, 0, 1] ?_))
  show TrC _ _ _ _ [(4, _), (0, _), (1, _)] _ _
  refine tr_seq (fun K2 hK2 => ?_)
  refine tr_seq (fun K3 hK3 => ?_)
  -- region 1: dice.go:34
  refine tr_region ?_
  refine tr_val (ov_move rfl rfl) rfl rfl rfl ?_
  refine tr_val (ov_lss rfl rfl rfl) rfl rfl rfl ?_
  refine tr_nil (hK3 _ _ (TrC.keep [6, 4, 0, 1] ?_))
  show TrC _ _ _ _ [(6, _), (4, _), (0, _), (1, _)] _ _
  first | refine tr_cond rfl (fun c6 => ?_) (fun c6 => ?_) | refine tr_condb rfl (fun c6 => ?_) (fun c6 => ?_)
  · skip
    refine tr_seq (fun K4 hK4 => ?_)
    -- region 2: dice.go:35
    refine tr_region ?_
    refine tr_val (ov_assign rfl rfl) rfl rfl rfl ?_
    refine tr_nil (hK4 _ _ (TrC.keep [4, 6, 0, 1] ?_))
    show TrC _ _ _ _ [(4, _), (6, _), (0, _), (1, _)] _ _
    refine tr_ret (post_ret1 (.inr rfl) rfl rfl ?_)
    refine ⟨congrArg (Value.int .u64) ?_, ?_⟩
    · unfold belowV; rw [if_pos (by omega)]
    · unfold belowK; rw [if_pos (by omega)]; exact H
  · skip
    refine tr_skip (hK2 _ _ (TrC.keep [6, 4, 0, 1] ?_))
    show TrC _ _ _ _ [(6, _), (4, _), (0, _), (1, _)] _ _
    refine tr_seq (fun K5 hK5 => ?_)
    -- region 3: dice.go:37
    refine tr_region ?_
    refine tr_val (ov_move rfl rfl) rfl rfl rfl ?_
    refine tr_val (ov_move rfl rfl) rfl rfl rfl ?_
    refine tr_val (ov_sub rfl rfl rfl (wu64 (by omega))) rfl rfl rfl ?_
    refine tr_call (Len64_c (n - 1) _ (by omega) (by omega)) rfl rfl rfl Try.call52 rfl rfl rfl ?_
    rintro _ w1 ⟨rfl, HC⟩
    have H := H.call0n HC
    have hbl := bitLen_64 (n := (n - 1).toNat) (by have : (2 : Nat) ^ 64 = 18446744073709551616 := by decide
                                                   omega)
    have hK : belowK n = (((bitLen (n - 1).toNat : Int) + 7) / 8).toNat := by unfold belowK; rw [if_neg (by omega)]
    have hK0 := belowK_le hn
    refine tr_val (ov_add rfl rfl rfl (w64 (by omega))) rfl rfl rfl ?_
    refine tr_val (ov_quo rfl rfl rfl (by omega) (i64_quo_ (by omega) (by omega))) rfl rfl rfl ?_
    refine tr_call (take_c d g L _ _ H.get0 hB hL (by omega) (by omega)) rfl rfl rfl Try.call51 rfl rfl rfl ?_
    rintro _ w2 ⟨rfl, HC⟩
    have H := H.call1 HC
    have hnn := le_take_nn hB (((bitLen (n - 1).toNat : Int) + 7) / 8).toNat
    refine tr_val (ov_move rfl rfl) rfl rfl rfl ?_
    refine tr_val (ov_rem rfl rfl rfl (by omega) (Int.tmod_eq_emod_of_nonneg hnn)) rfl rfl rfl ?_
    refine tr_val (ov_assign rfl rfl) rfl rfl rfl ?_
    refine tr_nil (hK5 _ _ (TrC.keep [4, 6, 1] ?_))
    show TrC _ _ _ _ [(4, _), (6, _), (1, _)] _ _
    refine tr_ret (post_ret1 (.inr rfl) rfl rfl ?_)
    refine ⟨congrArg (Value.int .u64) ?_, ?_⟩
    · unfold belowV; rw [if_neg (by omega), hK]
    · rw [hK]; exact H

/-! (*curfew/dice.Dice).Between -/
set_option maxRecDepth 20000 in
theorem Between_c (d : Nat) (g : Option Nat) (L : List Int) (w : World) (a b : Int) (hD : (dice d g L).holds w) (hB : Bytes L) (hL : L.length ≤ 4294967296) (ha : -9223372036854775808 ≤ a ∧ a ≤ 9223372036854775807) (hb : -9223372036854775808 ≤ b ∧ b ≤ 9223372036854775807) : Does Try.prog 15 #[.pointer (some ⟨d, 0, none⟩), .int .i64 a, .int .i64 b] w (fun v w' => ∃ r : Int, v = .int .i64 r ∧ (b < a → r = a) ∧ (a ≤ b → a ≤ r ∧ r ≤ b) ∧ (-9223372036854775808 ≤ r ∧ r ≤ 9223372036854775807) ∧ ∃ k, SH w (dice d g L).foot [dice d g (L.drop k)] w') := by
  refine does_enter3 Try.func15 rfl Try.ntmps15 rfl ?_
  have H := SH.own1 hD
  refine tr_seq (fun K1 hK1 => ?_)
  -- region 0: dice.go:41
  refine tr_region ?_
  refine tr_val (ov_assign rfl rfl) rfl rfl rfl ?_
  refine tr_nil (hK1 _ _ (TrC.keep [6, 0, 1, 2] ?_))
  show TrC _ _ _ _ [(6, _), (0, _), (1, _), (2, _)] _ _
  refine tr_seq (fun K2 hK2 => ?_)
  refine tr_seq (fun K3 hK3 => ?_)
  -- region 1: dice.go:42
  refine tr_region ?_
  refine tr_val (ov_move rfl rfl) rfl rfl rfl ?_
  refine tr_val (ov_move rfl rfl) rfl rfl rfl ?_
  refine tr_val (ov_lss rfl rfl rfl) rfl rfl rfl ?_
  refine tr_nil (hK3 _ _ (TrC.keep [10, 6, 0, 1, 2] ?_))
  show TrC _ _ _ _ [(10, _), (6, _), (0, _), (1, _), (2, _)] _ _
  first | refine tr_cond rfl (fun c10 => ?_) (fun c10 => ?_) | refine tr_condb rfl (fun c10 => ?_) (fun c10 => ?_)
  · skip
    refine tr_seq (fun K4 hK4 => ?_)
    -- region 2: dice.go:43
    refine tr_region ?_
    refine tr_val (ov_move rfl rfl) rfl rfl rfl ?_
    refine tr_val (ov_assign rfl rfl) rfl rfl rfl ?_
    refine tr_nil (hK4 _ _ (TrC.keep [6, 10, 0, 1, 2] ?_))
    show TrC _ _ _ _ [(6, _), (10, _), (0, _), (1, _), (2, _)] _ _
    refine tr_ret (post_ret1 (.inr rfl) rfl rfl ?_)
    exact ⟨a, rfl, fun _ => rfl, fun h => by omega, ha, 0, H⟩
  · skip
    refine tr_skip (hK2 _ _ (TrC.keep [10, 6, 0, 1, 2] ?_))
    show TrC _ _ _ _ [(10, _), (6, _), (0, _), (1, _), (2, _)] _ _
    refine tr_seq (fun K5 hK5 => ?_)
    -- region 3: dice.go:45
    refine tr_region ?_
    refine tr_val (ov_move rfl rfl) rfl rfl rfl ?_
    refine tr_val (ov_move rfl rfl) rfl rfl rfl ?_
    refine tr_val (ov_sub rfl rfl rfl rfl) rfl rfl rfl ?_
    refine tr_val (ov_conv rfl Try.underlying2 Try.underlying23 rfl rfl) rfl rfl rfl ?_
    refine tr_val (ov_add rfl rfl rfl rfl) rfl rfl rfl ?_
    obtain ⟨way, hway, hway2⟩ := way_ex ha hb (by omega)
    rw [hway]
    refine tr_val (ov_assign rfl rfl) rfl rfl rfl ?_
    refine tr_nil (hK5 _ _ (TrC.keep [7, 10, 6, 0, 1, 2] ?_))
    show TrC _ _ _ _ [(7, _), (10, _), (6, _), (0, _), (1, _), (2, _)] _ _
    refine tr_seq (fun K6 hK6 => ?_)
    refine tr_seq (fun K7 hK7 => ?_)
    -- region 4: dice.go:46
    refine tr_region ?_
    refine tr_val (ov_move rfl rfl) rfl rfl rfl ?_
    refine tr_val (ov_eql rfl rfl rfl) rfl rfl rfl ?_
    refine tr_nil (hK7 _ _ (TrC.keep [18, 7, 10, 6, 0, 1, 2] ?_))
    show TrC _ _ _ _ [(18, _), (7, _), (10, _), (6, _), (0, _), (1, _), (2, _)] _ _
    first | refine tr_cond rfl (fun c18 => ?_) (fun c18 => ?_) | refine tr_condb rfl (fun c18 => ?_) (fun c18 => ?_)
    · skip
      refine tr_seq (fun K8 hK8 => ?_)
      -- region 5: dice.go:47
      refine tr_region ?_
      refine tr_val (ov_move rfl rfl) rfl rfl rfl ?_
      refine tr_val (ov_move rfl rfl) rfl rfl rfl ?_
      refine tr_call (take_c d g L _ 8 H.get0 hB hL (by omega) (by omega)) rfl rfl rfl Try.call51 rfl rfl rfl ?_
      rintro _ w1 ⟨rfl, HC⟩
      have H := H.call1 HC
      refine tr_val (ov_conv rfl Try.underlying23 Try.underlying2 rfl rfl) rfl rfl rfl ?_
      refine tr_val (ov_add rfl rfl rfl rfl) rfl rfl rfl ?_
      refine tr_val (ov_assign rfl rfl) rfl rfl rfl ?_
      refine tr_nil (hK8 _ _ (TrC.keep [6, 18, 7, 10, 0, 1, 2] ?_))
      show TrC _ _ _ _ [(6, _), (18, _), (7, _), (10, _), (0, _), (1, _), (2, _)] _ _
      refine tr_ret (post_ret1 (.inr rfl) rfl rfl ?_)
      refine ⟨_, rfl, fun h => by omega, fun h => ?_, i64_rng _, _, H⟩
      have := i64_rng (a + IntKind.i64.wrap (le (L.take (8 : Int).toNat)))
      omega
    · skip
      refine tr_skip (hK6 _ _ (TrC.keep [18, 7, 10, 6, 0, 1, 2] ?_))
      show TrC _ _ _ _ [(18, _), (7, _), (10, _), (6, _), (0, _), (1, _), (2, _)] _ _
      refine tr_seq (fun K9 hK9 => ?_)
      -- region 6: dice.go:49
      have hlt := belowV_lt (L := L) hB (n := way) (by omega)
      refine tr_region ?_
      refine tr_val (ov_move rfl rfl) rfl rfl rfl ?_
      refine tr_val (ov_move rfl rfl) rfl rfl rfl ?_
      refine tr_val (ov_move rfl rfl) rfl rfl rfl ?_
      refine tr_call (Below_c d g L _ way H.get0 hB hL (by omega) (by omega)) rfl rfl rfl Try.call14 rfl rfl rfl ?_
      rintro _ w2 ⟨rfl, HC⟩
      have H := H.call1 HC
      refine tr_val (ov_conv rfl Try.underlying23 Try.underlying2 rfl rfl) rfl rfl rfl ?_
      refine tr_val (ov_add rfl rfl rfl rfl) rfl rfl rfl ?_
      refine tr_val (ov_assign rfl rfl) rfl rfl rfl ?_
      refine tr_nil (hK9 _ _ (TrC.keep [6, 18, 7, 10, 0, 1, 2] ?_))
      show TrC _ _ _ _ [(6, _), (18, _), (7, _), (10, _), (0, _), (1, _), (2, _)] _ _
      refine tr_ret (post_ret1 (.inr rfl) rfl rfl ?_)
      refine ⟨_, rfl, fun h => by omega, fun h => ?_, i64_rng _, _, H⟩
      rw [i64_add_i64, w64 (by omega)]; omega

/-! (*curfew/dice.Dice).Order$1 -/
set_option maxRecDepth 20000 in
theorem swap_c (b : Nat) (A : Option Addr) (c : Nat) (M : List Int) (i k : Int) (w : World) (hO : Own [blk b 29 [.slice A M.length c], vec A c 3 1 encI64 M] w) (hi : 0 ≤ i) (hi1 : i < M.length) (hk : 0 ≤ k) (hk1 : k < M.length) : Does Try.prog 53 #[.int .i64 i, .int .i64 k, .pointer (some ⟨b, 0, none⟩)] w (fun v w' => SH w (footAll [blk b 29 [.slice A M.length c], vec A c 3 1 encI64 M]) [blk b 29 [.slice A M.length c], vec A c 3 1 encI64 (swp M i k)] w') := by
  refine does_enter3 Try.func53 rfl Try.ntmps53 rfl ?_
  have H := SH.ofOwn hO
  have hl1 : (M.set i.toNat (gt M k)).length = M.length := by simp
  have hsome := rd_some (vec_rd H.get1 lenI64 (by decide)) (i := i) (by omega) (by omega)
  -- region 0: dice.go:63
  refine tr_held (fun w' => (blk b 29 [.slice A M.length c]).holds w') mixed rfl H ?_
  intro w1 H
  first | refine th_take 0 rfl (by kernel_rfl) (by kernel_rfl) (by kernel_rfl) (H.get0) (fun _ hS => ov_load_blk hS rfl (Try.isAgg29 _) rfl rfl rfl) rfl rfl rfl ?_ | refine th_take 0 rfl (by kernel_rfl) (by kernel_rfl) (by kernel_rfl) (H.get0) (fun _ hS => ov_load_blk hS.1 rfl (Try.isAgg29 _) rfl rfl rfl) rfl rfl rfl ?_ | refine th_take 0 rfl (by kernel_rfl) (by kernel_rfl) (by kernel_rfl) (H.get0) (fun _ hS => ov_load_blk hS.2.1 rfl (Try.isAgg29 _) rfl rfl rfl) rfl rfl rfl ?_ | refine th_take 0 rfl (by kernel_rfl) (by kernel_rfl) (by kernel_rfl) (H.get0) (fun _ hS => ov_load_blk hS.2.2.1 rfl (Try.isAgg29 _) rfl rfl rfl) rfl rfl rfl ?_ | refine th_take 0 rfl (by kernel_rfl) (by kernel_rfl) (by kernel_rfl) (H.get0) (fun _ hS => ov_load_blk hS.2.2.2.1 rfl (Try.isAgg29 _) rfl rfl rfl) rfl rfl rfl ?_ | refine th_take 0 rfl (by kernel_rfl) (by kernel_rfl) (by kernel_rfl) (H.get0) (fun _ hS => ov_load_blk hS.2.2.2.2.1 rfl (Try.isAgg29 _) rfl rfl rfl) rfl rfl rfl ?_ | refine th_take 0 rfl (by kernel_rfl) (by kernel_rfl) (by kernel_rfl) (H.get0) (fun _ hS => ov_load_blk hS.2 rfl (Try.isAgg29 _) rfl rfl rfl) rfl rfl rfl ?_ | refine th_take 0 rfl (by kernel_rfl) (by kernel_rfl) (by kernel_rfl) (H.get0) (fun _ hS => ov_load_blk hS.2.2 rfl (Try.isAgg29 _) rfl rfl rfl) rfl rfl rfl ?_ | refine th_take 0 rfl (by kernel_rfl) (by kernel_rfl) (by kernel_rfl) (H.get0) (fun _ hS => ov_load_blk hS.2.2.2 rfl (Try.isAgg29 _) rfl rfl rfl) rfl rfl rfl ?_ | refine th_take 0 rfl (by kernel_rfl) (by kernel_rfl) (by kernel_rfl) (H.get0) (fun _ hS => ov_load_blk hS.2.2.2.2 rfl (Try.isAgg29 _) rfl rfl rfl) rfl rfl rfl ?_
  refine th_take 1 rfl (by kernel_rfl) (by kernel_rfl) (by kernel_rfl) (H.get0) (fun _ hS => ov_move rfl rfl) rfl rfl rfl ?_
  first | refine th_take 2 rfl (by kernel_rfl) (by kernel_rfl) (by kernel_rfl) (H.get0) (fun _ hS => ov_load_blk hS rfl (Try.isAgg29 _) rfl rfl rfl) rfl rfl rfl ?_ | refine th_take 2 rfl (by kernel_rfl) (by kernel_rfl) (by kernel_rfl) (H.get0) (fun _ hS => ov_load_blk hS.1 rfl (Try.isAgg29 _) rfl rfl rfl) rfl rfl rfl ?_ | refine th_take 2 rfl (by kernel_rfl) (by kernel_rfl) (by kernel_rfl) (H.get0) (fun _ hS => ov_load_blk hS.2.1 rfl (Try.isAgg29 _) rfl rfl rfl) rfl rfl rfl ?_ | refine th_take 2 rfl (by kernel_rfl) (by kernel_rfl) (by kernel_rfl) (H.get0) (fun _ hS => ov_load_blk hS.2.2.1 rfl (Try.isAgg29 _) rfl rfl rfl) rfl rfl rfl ?_ | refine th_take 2 rfl (by kernel_rfl) (by kernel_rfl) (by kernel_rfl) (H.get0) (fun _ hS => ov_load_blk hS.2.2.2.1 rfl (Try.isAgg29 _) rfl rfl rfl) rfl rfl rfl ?_ | refine th_take 2 rfl (by kernel_rfl) (by kernel_rfl) (by kernel_rfl) (H.get0) (fun _ hS => ov_load_blk hS.2.2.2.2.1 rfl (Try.isAgg29 _) rfl rfl rfl) rfl rfl rfl ?_ | refine th_take 2 rfl (by kernel_rfl) (by kernel_rfl) (by kernel_rfl) (H.get0) (fun _ hS => ov_load_blk hS.2 rfl (Try.isAgg29 _) rfl rfl rfl) rfl rfl rfl ?_ | refine th_take 2 rfl (by kernel_rfl) (by kernel_rfl) (by kernel_rfl) (H.get0) (fun _ hS => ov_load_blk hS.2.2 rfl (Try.isAgg29 _) rfl rfl rfl) rfl rfl rfl ?_ | refine th_take 2 rfl (by kernel_rfl) (by kernel_rfl) (by kernel_rfl) (H.get0) (fun _ hS => ov_load_blk hS.2.2.2 rfl (Try.isAgg29 _) rfl rfl rfl) rfl rfl rfl ?_ | refine th_take 2 rfl (by kernel_rfl) (by kernel_rfl) (by kernel_rfl) (H.get0) (fun _ hS => ov_load_blk hS.2.2.2.2 rfl (Try.isAgg29 _) rfl rfl rfl) rfl rfl rfl ?_
  refine th_take 3 rfl (by kernel_rfl) (by kernel_rfl) (by kernel_rfl) (H.get0) (fun _ hS => ov_move rfl rfl) rfl rfl rfl ?_
  first | refine th_take 4 rfl (by kernel_rfl) (by kernel_rfl) (by kernel_rfl) (H.get0) (fun _ hS => ov_load_blk hS rfl (Try.isAgg29 _) rfl rfl rfl) rfl rfl rfl ?_ | refine th_take 4 rfl (by kernel_rfl) (by kernel_rfl) (by kernel_rfl) (H.get0) (fun _ hS => ov_load_blk hS.1 rfl (Try.isAgg29 _) rfl rfl rfl) rfl rfl rfl ?_ | refine th_take 4 rfl (by kernel_rfl) (by kernel_rfl) (by kernel_rfl) (H.get0) (fun _ hS => ov_load_blk hS.2.1 rfl (Try.isAgg29 _) rfl rfl rfl) rfl rfl rfl ?_ | refine th_take 4 rfl (by kernel_rfl) (by kernel_rfl) (by kernel_rfl) (H.get0) (fun _ hS => ov_load_blk hS.2.2.1 rfl (Try.isAgg29 _) rfl rfl rfl) rfl rfl rfl ?_ | refine th_take 4 rfl (by kernel_rfl) (by kernel_rfl) (by kernel_rfl) (H.get0) (fun _ hS => ov_load_blk hS.2.2.2.1 rfl (Try.isAgg29 _) rfl rfl rfl) rfl rfl rfl ?_ | refine th_take 4 rfl (by kernel_rfl) (by kernel_rfl) (by kernel_rfl) (H.get0) (fun _ hS => ov_load_blk hS.2.2.2.2.1 rfl (Try.isAgg29 _) rfl rfl rfl) rfl rfl rfl ?_ | refine th_take 4 rfl (by kernel_rfl) (by kernel_rfl) (by kernel_rfl) (H.get0) (fun _ hS => ov_load_blk hS.2 rfl (Try.isAgg29 _) rfl rfl rfl) rfl rfl rfl ?_ | refine th_take 4 rfl (by kernel_rfl) (by kernel_rfl) (by kernel_rfl) (H.get0) (fun _ hS => ov_load_blk hS.2.2 rfl (Try.isAgg29 _) rfl rfl rfl) rfl rfl rfl ?_ | refine th_take 4 rfl (by kernel_rfl) (by kernel_rfl) (by kernel_rfl) (H.get0) (fun _ hS => ov_load_blk hS.2.2.2 rfl (Try.isAgg29 _) rfl rfl rfl) rfl rfl rfl ?_ | refine th_take 4 rfl (by kernel_rfl) (by kernel_rfl) (by kernel_rfl) (H.get0) (fun _ hS => ov_load_blk hS.2.2.2.2 rfl (Try.isAgg29 _) rfl rfl rfl) rfl rfl rfl ?_
  refine th_take 5 rfl (by kernel_rfl) (by kernel_rfl) (by kernel_rfl) (H.get0) (fun _ hS => ov_move rfl rfl) rfl rfl rfl ?_
  refine th_take 6 rfl (by kernel_rfl) (by kernel_rfl) (by kernel_rfl) (H.get0) (fun _ hS => ov_indexAddr rfl Try.underlying29 (Try.sizeOf3 _) rfl rfl (by omega) (by omega) hsome) rfl rfl rfl ?_
  first | refine th_take 8 rfl (by kernel_rfl) (by kernel_rfl) (by kernel_rfl) (H.get0) (fun _ hS => ov_load_blk hS rfl (Try.isAgg29 _) rfl rfl rfl) rfl rfl rfl ?_ | refine th_take 8 rfl (by kernel_rfl) (by kernel_rfl) (by kernel_rfl) (H.get0) (fun _ hS => ov_load_blk hS.1 rfl (Try.isAgg29 _) rfl rfl rfl) rfl rfl rfl ?_ | refine th_take 8 rfl (by kernel_rfl) (by kernel_rfl) (by kernel_rfl) (H.get0) (fun _ hS => ov_load_blk hS.2.1 rfl (Try.isAgg29 _) rfl rfl rfl) rfl rfl rfl ?_ | refine th_take 8 rfl (by kernel_rfl) (by kernel_rfl) (by kernel_rfl) (H.get0) (fun _ hS => ov_load_blk hS.2.2.1 rfl (Try.isAgg29 _) rfl rfl rfl) rfl rfl rfl ?_ | refine th_take 8 rfl (by kernel_rfl) (by kernel_rfl) (by kernel_rfl) (H.get0) (fun _ hS => ov_load_blk hS.2.2.2.1 rfl (Try.isAgg29 _) rfl rfl rfl) rfl rfl rfl ?_ | refine th_take 8 rfl (by kernel_rfl) (by kernel_rfl) (by kernel_rfl) (H.get0) (fun _ hS => ov_load_blk hS.2.2.2.2.1 rfl (Try.isAgg29 _) rfl rfl rfl) rfl rfl rfl ?_ | refine th_take 8 rfl (by kernel_rfl) (by kernel_rfl) (by kernel_rfl) (H.get0) (fun _ hS => ov_load_blk hS.2 rfl (Try.isAgg29 _) rfl rfl rfl) rfl rfl rfl ?_ | refine th_take 8 rfl (by kernel_rfl) (by kernel_rfl) (by kernel_rfl) (H.get0) (fun _ hS => ov_load_blk hS.2.2 rfl (Try.isAgg29 _) rfl rfl rfl) rfl rfl rfl ?_ | refine th_take 8 rfl (by kernel_rfl) (by kernel_rfl) (by kernel_rfl) (H.get0) (fun _ hS => ov_load_blk hS.2.2.2 rfl (Try.isAgg29 _) rfl rfl rfl) rfl rfl rfl ?_ | refine th_take 8 rfl (by kernel_rfl) (by kernel_rfl) (by kernel_rfl) (H.get0) (fun _ hS => ov_load_blk hS.2.2.2.2 rfl (Try.isAgg29 _) rfl rfl rfl) rfl rfl rfl ?_
  refine th_take 9 rfl (by kernel_rfl) (by kernel_rfl) (by kernel_rfl) (H.get0) (fun _ hS => ov_move rfl rfl) rfl rfl rfl ?_
  refine th_take 10 rfl (by kernel_rfl) (by kernel_rfl) (by kernel_rfl) (H.get0) (fun _ hS => ov_indexAddr rfl Try.underlying29 (Try.sizeOf3 _) rfl rfl (by omega) (by omega) hsome) rfl rfl rfl ?_
  refine th_two 7 11 (by kernel_rfl) ?_ ?_
  · skip
    refine tw_val (ld_I64 (vec_rd H.get1 lenI64 (by decide)) rfl (Try.isAgg3 _) rfl (by omega) (by omega)) rfl (H.get0) rfl rfl rfl ?_
    refine th_one 11 (by kernel_rfl) ?_
    refine tw_val (ld_I64 (vec_rd H.get1 lenI64 (by decide)) rfl (Try.isAgg3 _) rfl (by omega) (by omega)) rfl (H.get0) rfl rfl rfl ?_
    refine th_take 12 rfl (by kernel_rfl) (by kernel_rfl) (by kernel_rfl) (H.get0) (fun _ hS => ov_indexAddr rfl Try.underlying29 (Try.sizeOf3 _) rfl rfl (by omega) (by omega) hsome) rfl rfl rfl ?_
    refine th_one 13 (by kernel_rfl) ?_
    refine tw_store_vec (i := i) (k := 0) (gt M k) [.int .i64 (gt M k)] H.get1 lenI64 rfl rfl rfl rfl rfl (by omega) (by omega) (Try.sizeOf3 _) (Nat.le_refl _) (List.cons_ne_nil _ _) rfl rfl rfl rfl rfl ?_
    intro w9 U; have H := H.upd1 U; clear U
    refine ⟨H.get0, ?_⟩
    refine th_take 14 rfl (by kernel_rfl) (by kernel_rfl) (by kernel_rfl) (H.get0) (fun _ hS => ov_indexAddr rfl Try.underlying29 (Try.sizeOf3 _) rfl rfl (by omega) (by omega) hsome) rfl rfl rfl ?_
    refine th_one 15 (by kernel_rfl) ?_
    refine tw_store_vec (i := k) (k := 0) (gt M i) [.int .i64 (gt M i)] H.get1 lenI64 rfl rfl rfl rfl rfl (by omega) (by simp; omega) (Try.sizeOf3 _) (Nat.le_refl _) (List.cons_ne_nil _ _) rfl rfl rfl rfl rfl ?_
    intro w9 U; have H := H.upd1 U; clear U
    refine ⟨H.get0, ?_⟩
    refine th_done (by kernel_rfl) ?_
    refine id (post_ret0 (.inl rfl) rfl  ?_)
    exact H
  · skip
    refine tw_val (ld_I64 (vec_rd H.get1 lenI64 (by decide)) rfl (Try.isAgg3 _) rfl (by omega) (by omega)) rfl (H.get0) rfl rfl rfl ?_
    refine th_one 7 (by kernel_rfl) ?_
    refine tw_val (ld_I64 (vec_rd H.get1 lenI64 (by decide)) rfl (Try.isAgg3 _) rfl (by omega) (by omega)) rfl (H.get0) rfl rfl rfl ?_
    refine th_take 12 rfl (by kernel_rfl) (by kernel_rfl) (by kernel_rfl) (H.get0) (fun _ hS => ov_indexAddr rfl Try.underlying29 (Try.sizeOf3 _) rfl rfl (by omega) (by omega) hsome) rfl rfl rfl ?_
    refine th_one 13 (by kernel_rfl) ?_
    refine tw_store_vec (i := i) (k := 0) (gt M k) [.int .i64 (gt M k)] H.get1 lenI64 rfl rfl rfl rfl rfl (by omega) (by omega) (Try.sizeOf3 _) (Nat.le_refl _) (List.cons_ne_nil _ _) rfl rfl rfl rfl rfl ?_
    intro w9 U; have H := H.upd1 U; clear U
    refine ⟨H.get0, ?_⟩
    refine th_take 14 rfl (by kernel_rfl) (by kernel_rfl) (by kernel_rfl) (H.get0) (fun _ hS => ov_indexAddr rfl Try.underlying29 (Try.sizeOf3 _) rfl rfl (by omega) (by omega) hsome) rfl rfl rfl ?_
    refine th_one 15 (by kernel_rfl) ?_
    refine tw_store_vec (i := k) (k := 0) (gt M i) [.int .i64 (gt M i)] H.get1 lenI64 rfl rfl rfl rfl rfl (by omega) (by simp; omega) (Try.sizeOf3 _) (Nat.le_refl _) (List.cons_ne_nil _ _) rfl rfl rfl rfl rfl ?_
    intro w9 U; have H := H.upd1 U; clear U
    refine ⟨H.get0, ?_⟩
    refine th_done (by kernel_rfl) ?_
    refine id (post_ret0 (.inl rfl) rfl  ?_)
    exact H

/-! (*curfew/dice.Dice).Order -/
set_option maxRecDepth 20000 in
theorem Order_c (d : Nat) (g : Option Nat) (L : List Int) (w : World) (n : Int) (hD : (dice d g L).holds w) (hB : Bytes L) (hL : L.length ≤ 4294967296) (hn0 : 0 ≤ n) (hn : n ≤ 65536) : Does Try.prog 16 #[.pointer (some ⟨d, 0, none⟩), .int .i64 n] w (fun v w' => ∃ A c M k, v = .slice A M.length c ∧ M.Perm (irange n) ∧ SH w (dice d g L).foot [vec A c 3 1 encI64 M, dice d g (L.drop k)] w') := by
  refine does_enter2 Try.func16 rfl Try.ntmps16 rfl ?_
  have H := SH.own1 hD
  have H := H.addNil 3 1 encI64
  refine tr_seq (fun K1 hK1 => ?_)
  -- region 0: dice.go:56
  refine tr_region ?_
  refine tr_alloc H rfl (Try.zeroValue29 _) rfl rfl rfl rfl ?_
  intro b w1 hb H
  have H := H.top1
  refine tr_nil (hK1 _ _ (TrC.keep [4, 0, 1] ?_))
  show TrC _ _ _ _ [(4, _), (0, _), (1, _)] _ _
  refine tr_seq (fun K2 hK2 => ?_)
  refine tr_seq (fun K3 hK3 => ?_)
  -- region 1: dice.go:57
  refine tr_region ?_
  refine tr_val (ov_move rfl rfl) rfl rfl rfl ?_
  refine tr_val (ov_gtr rfl rfl rfl) rfl rfl rfl ?_
  refine tr_nil (hK3 _ _ (TrC.keep [9, 4, 0, 1] ?_))
  show TrC _ _ _ _ [(9, _), (4, _), (0, _), (1, _)] _ _
  first | refine tr_cond rfl (fun c9 => ?_) (fun c9 => ?_) | refine tr_condb rfl (fun c9 => ?_) (fun c9 => ?_)
  · exfalso; omega
  · skip
    refine tr_skip (hK2 _ _ (TrC.keep [9, 4, 0, 1] ?_))
    show TrC _ _ _ _ [(9, _), (4, _), (0, _), (1, _)] _ _
    refine tr_seq (fun K4 hK4 => ?_)
    refine tr_seq (fun K5 hK5 => ?_)
    -- region 3: dice.go:60
    refine tr_region ?_
    refine tr_val (ov_move rfl rfl) rfl rfl rfl ?_
    refine tr_val (ov_move rfl rfl) rfl rfl rfl ?_
    refine tr_nil (hK5 _ _ (TrC.keep [11, 10, 9, 4, 0, 1] ?_))
    show TrC _ _ _ _ [(11, _), (10, _), (9, _), (4, _), (0, _), (1, _)] _ _
    refine tr_block ?_
    refine tr_loop_ (X := Int × Option Addr × Nat) [10, 9, 4, 0, 1] (fun ⟨i, A, c⟩ => [(11, .int .i64 i)]) (fun ⟨i, A, c⟩ w' => 0 ≤ i ∧ i ≤ n ∧ SH w (dice d g L).foot [vec A c 3 1 encI64 (irange i), blk b 29 [.slice A (irange i).length c], dice d g L] w') (fun ⟨i, A, c⟩ => (n - i).toNat) (⟨0, none, 0⟩) (Sub.cons rfl (Sub.cons rfl (Sub.cons rfl (Sub.cons rfl (Sub.cons rfl (Sub.cons rfl Sub.nil)))))) (⟨by omega, by omega, H⟩) ?_
    rintro ⟨i, A, c⟩ w2 ⟨hi0, hin, H⟩ K6 hK6
    show TrC _ _ _ _ [(11, _), (10, _), (9, _), (4, _), (0, _), (1, _)] _ _
    refine tr_seq (fun K7 hK7 => ?_)
    -- region 4: dice.go:60
    refine tr_region ?_
    refine tr_val (ov_lss rfl rfl rfl) rfl rfl rfl ?_
    refine tr_nil (hK7 _ _ (TrC.keep [12, 11, 10, 9, 4, 0, 1] ?_))
    show TrC _ _ _ _ [(12, _), (11, _), (10, _), (9, _), (4, _), (0, _), (1, _)] _ _
    refine tr_seq (fun K8 hK8 => ?_)
    first | refine tr_cond rfl (fun c12 => ?_) (fun c12 => ?_) | refine tr_condb rfl (fun c12 => ?_) (fun c12 => ?_)
    · skip
      refine tr_skip (hK8 _ _ (TrC.keep [12, 11, 10, 9, 4, 0, 1] ?_))
      show TrC _ _ _ _ [(12, _), (11, _), (10, _), (9, _), (4, _), (0, _), (1, _)] _ _
      refine tr_seq (fun K9 hK9 => ?_)
      refine tr_block ?_
      refine tr_seq (fun K10 hK10 => ?_)
      -- region 5: dice.go:60
      refine tr_region ?_
      refine tr_val (ov_move rfl rfl) rfl rfl rfl ?_
      refine tr_val (ov_assign rfl rfl) rfl rfl rfl ?_
      refine tr_nil (hK10 _ _ (TrC.keep [5, 12, 11, 10, 9, 4, 0, 1] ?_))
      show TrC _ _ _ _ [(5, _), (12, _), (11, _), (10, _), (9, _), (4, _), (0, _), (1, _)] _ _
      -- region 6: dice.go:61
      refine tr_region ?_
      first | refine tr_val (ov_load_blk H.get0 rfl (Try.isAgg29 _) rfl rfl rfl) rfl rfl rfl ?_ | refine tr_val (ov_load_blk H.get1 rfl (Try.isAgg29 _) rfl rfl rfl) rfl rfl rfl ?_ | refine tr_val (ov_load_blk H.get2 rfl (Try.isAgg29 _) rfl rfl rfl) rfl rfl rfl ?_ | refine tr_val (ov_load_blk H.get3 rfl (Try.isAgg29 _) rfl rfl rfl) rfl rfl rfl ?_ | refine tr_val (ov_load_blk H.get4 rfl (Try.isAgg29 _) rfl rfl rfl) rfl rfl rfl ?_ | refine tr_val (ov_load_blk H.get5 rfl (Try.isAgg29 _) rfl rfl rfl) rfl rfl rfl ?_
      refine tr_val (ov_move rfl rfl) rfl rfl rfl ?_
      refine tr_buildSlice H rfl Try.underlying29 info3 rfl (fun ρ k => bs1 k rfl) (by decide) (by decide) (fill_I64_1 _) rfl rfl rfl ?_
      intro b2 w3 hb2 H
      refine tr_append H.get1 (rd_blk [i] H.get0 rfl lenI64) rfl rfl rfl Try.underlying29 info3 rfl rfl (show Try.t3.bytes = 8 from rfl) rfl (by decide) lenI64 oneI64 (by rw [irange_len]; simp; omega) (by rw [irange_len]; simp [maxLen]; omega) rfl rfl rfl ?_
      intro A' c' w4 U; have H := H.upd1 U; clear U
      first | (refine tr_store H.get0 rfl (Try.sizeOf29 _) rfl rfl rfl rfl rfl rfl rfl ?_; intro w5 U; have H := H.upd0 U; clear U) | (refine tr_store H.get1 rfl (Try.sizeOf29 _) rfl rfl rfl rfl rfl rfl rfl ?_; intro w5 U; have H := H.upd1 U; clear U) | (refine tr_store H.get2 rfl (Try.sizeOf29 _) rfl rfl rfl rfl rfl rfl rfl ?_; intro w5 U; have H := H.upd2 U; clear U) | (refine tr_store H.get3 rfl (Try.sizeOf29 _) rfl rfl rfl rfl rfl rfl rfl ?_; intro w5 U; have H := H.upd3 U; clear U) | (refine tr_store H.get4 rfl (Try.sizeOf29 _) rfl rfl rfl rfl rfl rfl rfl ?_; intro w5 U; have H := H.upd4 U; clear U) | (refine tr_store H.get5 rfl (Try.sizeOf29 _) rfl rfl rfl rfl rfl rfl rfl ?_; intro w5 U; have H := H.upd5 U; clear U)
      try simp only [List.set_cons_zero, List.set_cons_succ, Nat.zero_add] at H
      refine tr_nil (hK9 _ _ (TrC.keep [12, 11, 10, 9, 4, 0, 1] ?_))
      show TrC _ _ _ _ [(12, _), (11, _), (10, _), (9, _), (4, _), (0, _), (1, _)] _ _
      -- region 7: dice.go:60
      refine tr_region ?_
      refine tr_val (ov_add rfl rfl rfl (w64 (by omega))) rfl rfl rfl ?_
      refine tr_val (ov_move rfl rfl) rfl rfl rfl ?_
      skip
      exact tr_nil (hK6 (⟨i + 1, A', c'⟩) _ _ (⟨by omega, by omega, by rw [irange_succ hi0]; exact H.drop0⟩) (by first | omega | (dsimp only; omega)) (Sub.cons rfl (Sub.cons rfl (Sub.cons rfl (Sub.cons rfl (Sub.cons rfl (Sub.cons rfl Sub.nil)))))))
    · skip
      refine tr_exit (hK4 _ _ (TrC.keep [12, 11, 10, 9, 4, 0, 1] ?_))
      show TrC _ _ _ _ [(12, _), (11, _), (10, _), (9, _), (4, _), (0, _), (1, _)] _ _
      refine tr_seq (fun K11 hK11 => ?_)
      -- region 8: dice.go:63
      refine tr_region ?_
      refine tr_val (ov_makeFunc1 rfl rfl) rfl rfl rfl ?_
      refine tr_val (ov_assign rfl rfl) rfl rfl rfl ?_
      refine tr_nil (hK11 _ _ (TrC.keep [6, 12, 11, 10, 9, 4, 0, 1] ?_))
      show TrC _ _ _ _ [(6, _), (12, _), (11, _), (10, _), (9, _), (4, _), (0, _), (1, _)] _ _
      refine tr_seq (fun K12 hK12 => ?_)
      refine tr_seq (fun K13 hK13 => ?_)
      -- region 9: dice.go:64
      have hin' : n = i := by omega
      subst hin'
      have hln := irange_len n
      refine tr_region ?_
      first | refine tr_val (ov_load_blk H.get0 rfl (Try.isAgg29 _) rfl rfl rfl) rfl rfl rfl ?_ | refine tr_val (ov_load_blk H.get1 rfl (Try.isAgg29 _) rfl rfl rfl) rfl rfl rfl ?_ | refine tr_val (ov_load_blk H.get2 rfl (Try.isAgg29 _) rfl rfl rfl) rfl rfl rfl ?_ | refine tr_val (ov_load_blk H.get3 rfl (Try.isAgg29 _) rfl rfl rfl) rfl rfl rfl ?_ | refine tr_val (ov_load_blk H.get4 rfl (Try.isAgg29 _) rfl rfl rfl) rfl rfl rfl ?_ | refine tr_val (ov_load_blk H.get5 rfl (Try.isAgg29 _) rfl rfl rfl) rfl rfl rfl ?_
      refine tr_val (ov_len rfl rfl Try.underlying29 rfl) rfl rfl rfl ?_
      refine tr_val (ov_sub rfl rfl rfl (w64 (by omega))) rfl rfl rfl ?_
      refine tr_val (ov_assign rfl rfl) rfl rfl rfl ?_
      refine tr_nil (hK13 _ _ (TrC.keep [7, 6, 12, 11, 10, 9, 4, 0, 1] ?_))
      show TrC _ _ _ _ [(7, _), (6, _), (12, _), (11, _), (10, _), (9, _), (4, _), (0, _), (1, _)] _ _
      refine tr_block ?_
      refine tr_loop_ (X := Int × Nat × List Int) [6, 12, 11, 10, 9, 4, 0, 1] (fun ⟨j, k, M⟩ => [(7, .int .i64 j)]) (fun ⟨j, k, M⟩ w' => -1 ≤ j ∧ j < n ∧ M.Perm (irange n) ∧ SH w (dice d g L).foot [blk b 29 [.slice A M.length c], vec A c 3 1 encI64 M, dice d g (L.drop k)] w') (fun ⟨j, k, M⟩ => (j + 1).toNat) (⟨n - 1, 0, irange n⟩) (Sub.consE rfl (congrArg (Value.int .i64) (by omega)) (Sub.cons rfl (Sub.cons rfl (Sub.cons rfl (Sub.cons rfl (Sub.cons rfl (Sub.cons rfl (Sub.cons rfl (Sub.cons rfl Sub.nil))))))))) (⟨by omega, by omega, List.Perm.refl _, H.top1⟩) ?_
      rintro ⟨j, k, M⟩ w6 ⟨hj0, hjn, hP, H⟩ K14 hK14
      have hlM := hP.length_eq
      show TrC _ _ _ _ [(7, _), (6, _), (12, _), (11, _), (10, _), (9, _), (4, _), (0, _), (1, _)] _ _
      refine tr_seq (fun K15 hK15 => ?_)
      refine tr_seq (fun K16 hK16 => ?_)
      -- region 10: dice.go:64
      refine tr_region ?_
      refine tr_val (ov_move rfl rfl) rfl rfl rfl ?_
      refine tr_val (ov_gtr rfl rfl rfl) rfl rfl rfl ?_
      refine tr_val (ov_move rfl rfl) rfl rfl rfl ?_
      first | refine tr_split (t := 25) rfl (fun s25 => ?_) (fun s25 => ?_) | refine tr_splitb (t := 25) rfl (fun s25 => ?_) (fun s25 => ?_)
      · skip
        refine tr_val (ov_move rfl rfl) rfl rfl rfl ?_
        refine tr_val (ov_neq_nil rfl Try.underlying25 rfl rfl) rfl rfl rfl ?_
        refine tr_val (ov_pick (vb := undef) rfl rfl rfl rfl) rfl rfl rfl ?_
        refine tr_nil (hK16 _ _ (TrC.keep [28, 7, 6, 12, 11, 10, 9, 4, 0, 1] ?_))
        show TrC _ _ _ _ [(28, _), (7, _), (6, _), (12, _), (11, _), (10, _), (9, _), (4, _), (0, _), (1, _)] _ _
        refine tr_cond_t rfl (rfl) ?_
        refine tr_skip (hK15 _ _ (TrC.keep [28, 7, 6, 12, 11, 10, 9, 4, 0, 1] ?_))
        show TrC _ _ _ _ [(28, _), (7, _), (6, _), (12, _), (11, _), (10, _), (9, _), (4, _), (0, _), (1, _)] _ _
        refine tr_seq (fun K17 hK17 => ?_)
        refine tr_block ?_
        -- region 12: dice.go:65
        refine tr_region ?_
        refine tr_val (ov_move rfl rfl) rfl rfl rfl ?_
        refine tr_val (ov_move rfl rfl) rfl rfl rfl ?_
        refine tr_val (ov_move rfl rfl) rfl rfl rfl ?_
        refine tr_val (ov_move rfl rfl) rfl rfl rfl ?_
        refine tr_val (ov_conv rfl Try.underlying3 Try.underlying23 rfl (wu64 (by omega))) rfl rfl rfl ?_
        refine tr_val (ov_add rfl rfl rfl (wu64 (by omega))) rfl rfl rfl ?_
        refine tr_call (Below_c d g _ _ (j + 1) H.get2 (hB.drop _) (by simp; omega) (by omega) (by omega)) rfl rfl rfl Try.call14 rfl rfl rfl ?_
        rintro _ w7 ⟨rfl, HC⟩
        have H := (H.top2).call1 HC
        have hlt := belowV_lt (L := L.drop k) (hB.drop _) (n := j + 1) (by omega)
        have H := H.top1.top2.top1
        rw [List.drop_drop] at H
        refine tr_val (ov_conv rfl Try.underlying23 Try.underlying3 rfl (w64 (by omega))) rfl rfl rfl ?_
        refine tr_callc (swap_c b A c M j _ _ (SH.own_ [_, _] H) (by omega) (by omega) (by omega) (by omega)) rfl rfl rfl Try.call53 rfl rfl rfl ?_
        rintro _ w8 HC
        have H := H.call2 HC
        refine tr_nil (hK17 _ _ (TrC.keep [28, 7, 6, 12, 11, 10, 9, 4, 0, 1] ?_))
        show TrC _ _ _ _ [(28, _), (7, _), (6, _), (12, _), (11, _), (10, _), (9, _), (4, _), (0, _), (1, _)] _ _
        -- region 11: dice.go:64
        refine tr_region ?_
        refine tr_val (ov_move rfl rfl) rfl rfl rfl ?_
        refine tr_val (ov_sub rfl rfl rfl (w64 (by omega))) rfl rfl rfl ?_
        refine tr_val (ov_assign rfl rfl) rfl rfl rfl ?_
        skip
        exact tr_nil (hK14 (⟨j - 1, _, _⟩) _ _ (⟨by omega, by omega, (swp_perm (by omega) (by omega) (by omega) (by omega)).trans hP, (swp_len M j _).symm ▸ H⟩) (by first | omega | (dsimp only; omega)) (Sub.cons rfl (Sub.cons rfl (Sub.cons rfl (Sub.cons rfl (Sub.cons rfl (Sub.cons rfl (Sub.cons rfl (Sub.cons rfl (Sub.cons rfl Sub.nil))))))))))
      · skip
        refine tr_pass rfl rfl rfl ?_
        refine tr_pass rfl rfl rfl ?_
        refine tr_val (ov_pick_f (va := undef) rfl rfl rfl rfl) rfl rfl rfl ?_
        refine tr_nil (hK16 _ _ (TrC.keep [28, 7, 6, 12, 11, 10, 9, 4, 0, 1] ?_))
        show TrC _ _ _ _ [(28, _), (7, _), (6, _), (12, _), (11, _), (10, _), (9, _), (4, _), (0, _), (1, _)] _ _
        refine tr_cond_f rfl rfl ?_
        refine tr_exit (hK12 _ _ (TrC.keep [28, 7, 6, 12, 11, 10, 9, 4, 0, 1] ?_))
        show TrC _ _ _ _ [(28, _), (7, _), (6, _), (12, _), (11, _), (10, _), (9, _), (4, _), (0, _), (1, _)] _ _
        refine tr_seq (fun K18 hK18 => ?_)
        -- region 13: dice.go:67
        refine tr_region ?_
        first | refine tr_val (ov_load_blk H.get0 rfl (Try.isAgg29 _) rfl rfl rfl) rfl rfl rfl ?_ | refine tr_val (ov_load_blk H.get1 rfl (Try.isAgg29 _) rfl rfl rfl) rfl rfl rfl ?_ | refine tr_val (ov_load_blk H.get2 rfl (Try.isAgg29 _) rfl rfl rfl) rfl rfl rfl ?_ | refine tr_val (ov_load_blk H.get3 rfl (Try.isAgg29 _) rfl rfl rfl) rfl rfl rfl ?_ | refine tr_val (ov_load_blk H.get4 rfl (Try.isAgg29 _) rfl rfl rfl) rfl rfl rfl ?_ | refine tr_val (ov_load_blk H.get5 rfl (Try.isAgg29 _) rfl rfl rfl) rfl rfl rfl ?_
        first | (refine tr_store H.get0 rfl (Try.sizeOf29 _) rfl rfl rfl rfl rfl rfl rfl ?_; intro w9 U; have H := H.upd0 U; clear U) | (refine tr_store H.get1 rfl (Try.sizeOf29 _) rfl rfl rfl rfl rfl rfl rfl ?_; intro w9 U; have H := H.upd1 U; clear U) | (refine tr_store H.get2 rfl (Try.sizeOf29 _) rfl rfl rfl rfl rfl rfl rfl ?_; intro w9 U; have H := H.upd2 U; clear U) | (refine tr_store H.get3 rfl (Try.sizeOf29 _) rfl rfl rfl rfl rfl rfl rfl ?_; intro w9 U; have H := H.upd3 U; clear U) | (refine tr_store H.get4 rfl (Try.sizeOf29 _) rfl rfl rfl rfl rfl rfl rfl ?_; intro w9 U; have H := H.upd4 U; clear U) | (refine tr_store H.get5 rfl (Try.sizeOf29 _) rfl rfl rfl rfl rfl rfl rfl ?_; intro w9 U; have H := H.upd5 U; clear U)
        try simp only [List.set_cons_zero, List.set_cons_succ, Nat.zero_add] at H
        refine tr_nil (hK18 _ _ (TrC.keep [28, 7, 6, 12, 11, 10, 9, 4, 0, 1] ?_))
        show TrC _ _ _ _ [(28, _), (7, _), (6, _), (12, _), (11, _), (10, _), (9, _), (4, _), (0, _), (1, _)] _ _
        refine tr_ret (post_ret1 (.inr rfl) rfl (by first | exact ⟨_, rfl, res_blk1 H.get0 (Try.isAgg29 _) rfl rfl⟩ | exact ⟨_, rfl, res_blk1 H.get1 (Try.isAgg29 _) rfl rfl⟩ | exact ⟨_, rfl, res_blk1 H.get2 (Try.isAgg29 _) rfl rfl⟩ | exact ⟨_, rfl, res_blk1 H.get3 (Try.isAgg29 _) rfl rfl⟩ | exact ⟨_, rfl, res_blk1 H.get4 (Try.isAgg29 _) rfl rfl⟩ | exact ⟨_, rfl, res_blk1 H.get5 (Try.isAgg29 _) rfl rfl⟩) ?_)
        exact ⟨A, c, M, k, rfl, hP, H.top1.drop1⟩

theorem liveV1 : belowV [5, 1, 2] 4 = 1 := by decide
theorem liveK1 : ([5, 1, 2] : List Int).drop (belowK 4) = [1, 2] := by decide
theorem liveV2 : belowV [1, 2] 1000 = 513 := by decide
theorem liveK2 : ([1, 2] : List Int).drop (belowK 1000) = [] := by decide

/-! curfew/curfewlaw06.lives -/
set_option maxRecDepth 20000 in
theorem lives06_c (w : World) : Does Try.prog 12 #[] w (fun v w' => v = .bool true ∧ SH w noBlocks [] w') := by
  refine does_enter0 Try.func12 rfl Try.ntmps12 rfl ?_
  have H := SH.start w noBlocks
  refine tr_seq (fun K1 hK1 => ?_)
  -- region 0: law.go:10
  refine tr_region ?_
  refine tr_val (ov_assign rfl rfl) rfl rfl rfl ?_
  refine tr_nil (hK1 _ _ (TrC.keep [0] ?_))
  show TrC _ _ _ _ [(0, _)] _ _
  refine tr_seq (fun K2 hK2 => ?_)
  -- region 1: law.go:11
  refine tr_region ?_
  refine tr_buildSlice H rfl Try.underlying22 info5 rfl (fun ρ k => bs3 k rfl rfl rfl) (by decide) (by decide) (fill_U8_3 _ _ _) rfl rfl rfl ?_
  intro b1 w1 hb1 H
  refine tr_call (diceNew_c _ _ [5, 1, 2] _ (rd_blk [5, 1, 2] H.get0 rfl lenU8) (by decide)) rfl rfl rfl Try.call13 rfl rfl rfl ?_
  rintro _ w2 ⟨d, g, rfl, HC⟩
  have H := H.call0r HC
  refine tr_val (ov_assign rfl rfl) rfl rfl rfl ?_
  refine tr_nil (hK2 _ _ (TrC.keep [1, 0] ?_))
  show TrC _ _ _ _ [(1, _), (0, _)] _ _
  refine tr_seq (fun K3 hK3 => ?_)
  -- region 2: law.go:12
  refine tr_region ?_
  refine tr_val (ov_move rfl rfl) rfl rfl rfl ?_
  refine tr_call (Below_c d g _ _ 4 H.get0 (by decide) (by decide) (by decide) (by decide)) rfl rfl rfl Try.call14 rfl rfl rfl ?_
  rintro _ w3 ⟨rfl, HC⟩
  have H := H.call1 HC
  rw [liveV1]
  rw [liveK1] at H
  refine tr_val (ov_eql rfl rfl rfl) rfl rfl rfl ?_
  refine tr_val (ov_move rfl rfl) rfl rfl rfl ?_
  first | refine tr_split (t := 7) rfl (fun s7 => ?_) (fun s7 => ?_) | refine tr_splitb (t := 7) rfl (fun s7 => ?_) (fun s7 => ?_)
  · skip
    refine tr_val (ov_move rfl rfl) rfl rfl rfl ?_
    refine tr_call (Below_c d g _ _ 1000 H.get0 (by decide) (by decide) (by decide) (by decide)) rfl rfl rfl Try.call14 rfl rfl rfl ?_
    rintro _ w4 ⟨rfl, HC⟩
    have H := H.call1 HC
    rw [liveV2]
    rw [liveK2] at H
    refine tr_val (ov_eql rfl rfl rfl) rfl rfl rfl ?_
    refine tr_val (ov_pick (vb := undef) rfl rfl rfl rfl) rfl rfl rfl ?_
    refine tr_val (ov_move rfl rfl) rfl rfl rfl ?_
    first | refine tr_split (t := 12) rfl (fun s12 => ?_) (fun s12 => ?_) | refine tr_splitb (t := 12) rfl (fun s12 => ?_) (fun s12 => ?_)
    · skip
      refine tr_val (ov_move rfl rfl) rfl rfl rfl ?_
      refine tr_call (Left_c d g _ _ H.get0) rfl rfl rfl Try.call49 rfl rfl rfl ?_
      rintro _ w5 ⟨rfl, HC⟩
      have H := H.call1 HC
      refine tr_val (ov_eql rfl rfl rfl) rfl rfl rfl ?_
      refine tr_val (ov_pick (vb := undef) rfl rfl rfl rfl) rfl rfl rfl ?_
      refine tr_val (ov_assign rfl rfl) rfl rfl rfl ?_
      refine tr_nil (hK3 _ _ (TrC.keep [0] ?_))
      show TrC _ _ _ _ [(0, _)] _ _
      refine tr_ret (post_ret1 (.inr rfl) rfl rfl ?_)
      exact ⟨rfl, H.drop0.drop0⟩
    · exact absurd rfl s12
  · exact absurd rfl s7

/-! curfew/curfewlaw06.DiceBounds -/
set_option maxRecDepth 20000 in
theorem DiceBounds_c (A : Option Addr) (c : Nat) (L : List Int) (n a b k : Int) (w : World) (hR : Rd w A 1 (L.map encU8)) (hB : Bytes L) (hn : 0 ≤ n ∧ n ≤ 18446744073709551615) (ha : -9223372036854775808 ≤ a ∧ a ≤ 9223372036854775807) (hb : -9223372036854775808 ≤ b ∧ b ≤ 9223372036854775807) (hk : 0 ≤ k ∧ k ≤ 255) : Does Try.prog 3 #[.slice A L.length c, .int .u64 n, .int .i64 a, .int .i64 b, .int .u8 k] w (fun v w' => v = .bool true ∧ SH w noBlocks [] w') := by
  refine does_enter5 Try.func3 rfl Try.ntmps3 rfl ?_
  have H := SH.start w noBlocks
  refine tr_seq (fun K1 hK1 => ?_)
  -- region 0: law.go:68
  refine tr_region ?_
  refine tr_val (ov_assign rfl rfl) rfl rfl rfl ?_
  refine tr_nil (hK1 _ _ (TrC.keep [10, 0, 1, 2, 3, 4] ?_))
  show TrC _ _ _ _ [(10, _), (0, _), (1, _), (2, _), (3, _), (4, _)] _ _
  refine tr_seq (fun K2 hK2 => ?_)
  refine tr_seq (fun K3 hK3 => ?_)
  -- region 1: law.go:69
  refine tr_region ?_
  refine tr_val (ov_move rfl rfl) rfl rfl rfl ?_
  refine tr_val (ov_len rfl rfl Try.underlying22 rfl) rfl rfl rfl ?_
  refine tr_val (ov_gtr rfl rfl rfl) rfl rfl rfl ?_
  refine tr_val (ov_move rfl rfl) rfl rfl rfl ?_
  first | refine tr_split (t := 21) rfl (fun s21 => ?_) (fun s21 => ?_) | refine tr_splitb (t := 21) rfl (fun s21 => ?_) (fun s21 => ?_)
  · skip
    refine tr_pass rfl rfl rfl ?_
    refine tr_pass rfl rfl rfl ?_
    refine tr_val (ov_pick (vb := undef) rfl rfl rfl rfl) rfl rfl rfl ?_
    refine tr_nil (hK3 _ _ (TrC.keep [24, 10, 0, 1, 2, 3, 4] ?_))
    show TrC _ _ _ _ [(24, _), (10, _), (0, _), (1, _), (2, _), (3, _), (4, _)] _ _
    refine tr_cond_t rfl rfl ?_
    refine tr_seq (fun K4 hK4 => ?_)
    -- region 2: law.go:70
    refine tr_region ?_
    refine tr_call (lives06_c _) rfl rfl rfl Try.call12 rfl rfl rfl ?_
    rintro _ w1 ⟨rfl, HC⟩
    have H := H.call0n HC
    refine tr_val (ov_assign rfl rfl) rfl rfl rfl ?_
    refine tr_nil (hK4 _ _ (TrC.keep [10, 24, 0, 1, 2, 3, 4] ?_))
    show TrC _ _ _ _ [(10, _), (24, _), (0, _), (1, _), (2, _), (3, _), (4, _)] _ _
    refine tr_ret (post_ret1 (.inr rfl) rfl rfl ?_)
    exact ⟨rfl, H⟩
  · skip
    refine tr_call (lives06_c _) rfl rfl rfl Try.call12 rfl rfl rfl ?_
    rintro _ w2 ⟨rfl, HC⟩
    have H := H.call0n HC
    first | refine tr_val (ov_not rfl rfl) rfl rfl rfl ?_ | refine tr_val (ov_notb rfl rfl) rfl rfl rfl ?_
    refine tr_val (ov_pick_f (va := undef) rfl rfl rfl rfl) rfl rfl rfl ?_
    refine tr_nil (hK3 _ _ (TrC.keep [24, 10, 0, 1, 2, 3, 4] ?_))
    show TrC _ _ _ _ [(24, _), (10, _), (0, _), (1, _), (2, _), (3, _), (4, _)] _ _
    refine tr_cond_f rfl (rfl) ?_
    refine tr_skip (hK2 _ _ (TrC.keep [24, 10, 0, 1, 2, 3, 4] ?_))
    show TrC _ _ _ _ [(24, _), (10, _), (0, _), (1, _), (2, _), (3, _), (4, _)] _ _
    refine tr_seq (fun K5 hK5 => ?_)
    -- region 3: law.go:72
    have hL : L.length ≤ 3000 := by omega
    refine tr_region ?_
    refine tr_val (ov_move rfl rfl) rfl rfl rfl ?_
    refine tr_call (diceNew_c A c L _ (H.rd0 hR) (by omega)) rfl rfl rfl Try.call13 rfl rfl rfl ?_
    rintro _ w3 ⟨d, g, rfl, HC⟩
    have H := H.call0r HC
    refine tr_val (ov_assign rfl rfl) rfl rfl rfl ?_
    refine tr_nil (hK5 _ _ (TrC.keep [11, 24, 10, 0, 1, 2, 3, 4] ?_))
    show TrC _ _ _ _ [(11, _), (24, _), (10, _), (0, _), (1, _), (2, _), (3, _), (4, _)] _ _
    refine tr_seq (fun K6 hK6 => ?_)
    -- region 4: law.go:73
    refine tr_region ?_
    refine tr_val (ov_move rfl rfl) rfl rfl rfl ?_
    refine tr_val (ov_move rfl rfl) rfl rfl rfl ?_
    refine tr_call (Below_c d g _ _ n H.get0 hB (by omega) hn.1 hn.2) rfl rfl rfl Try.call14 rfl rfl rfl ?_
    rintro _ w4 ⟨rfl, HC⟩
    have H := H.call1 HC
    have hx := fun h => belowV_lt (L := L) hB (n := n) h
    have hx0 : n = 0 → belowV L n = 0 := fun h => by subst h; rfl
    generalize belowV L n = x at hx hx0 ⊢
    refine tr_val (ov_move rfl rfl) rfl rfl rfl ?_
    refine tr_val (ov_move rfl rfl) rfl rfl rfl ?_
    refine tr_val (ov_move rfl rfl) rfl rfl rfl ?_
    refine tr_call (Between_c d g _ _ a b H.get0 (hB.drop _) (by simp; omega) ha hb) rfl rfl rfl Try.call15 rfl rfl rfl ?_
    rintro _ w5 ⟨r, rfl, hr1, hr2, hr3, k1, HC⟩
    have H := H.call1 HC
    refine tr_val (ov_move rfl rfl) rfl rfl rfl ?_
    refine tr_val (ov_move rfl rfl) rfl rfl rfl ?_
    refine tr_val (ov_conv rfl Try.underlying5 Try.underlying3 rfl (w64 (by omega))) rfl rfl rfl ?_
    refine tr_call (Order_c d g _ _ k H.get0 ((hB.drop _).drop _) (by simp; omega) hk.1 (by omega)) rfl rfl rfl Try.call16 rfl rfl rfl ?_
    rintro _ w6 ⟨A1, c1, M, k2, rfl, hP, HC⟩
    have H := H.call1e HC
    have hlM := hP.length_eq
    rw [irange_len] at hlM
    refine tr_val (ov_assign rfl rfl) rfl rfl rfl ?_
    refine tr_val (ov_assign rfl rfl) rfl rfl rfl ?_
    refine tr_val (ov_assign rfl rfl) rfl rfl rfl ?_
    refine tr_nil (hK6 _ _ (TrC.keep [14, 13, 12, 24, 10, 0, 1, 2, 3, 4] ?_))
    show TrC _ _ _ _ [(14, _), (13, _), (12, _), (24, _), (10, _), (0, _), (1, _), (2, _), (3, _), (4, _)] _ _
    refine tr_seq (fun K7 hK7 => ?_)
    refine tr_seq (fun K8 hK8 => ?_)
    -- region 5: law.go:74
    refine tr_cut [14, 24, 10, 0, 1, 2, 3, 4] [(78, .bool false)] (fun w' => SH w noBlocks [vec A1 c1 3 1 encI64 M, dice d g (((L.drop (belowK n)).drop k1).drop k2)] w') (fun K9 hK9 => ?_) (fun w7 H => ?_)
    · skip
      refine tr_val (ov_move rfl rfl) rfl rfl rfl ?_
      refine tr_val (ov_gtr rfl rfl rfl) rfl rfl rfl ?_
      refine tr_val (ov_move rfl rfl) rfl rfl rfl ?_
      first | refine tr_split (t := 41) rfl (fun s41 => ?_) (fun s41 => ?_) | refine tr_splitb (t := 41) rfl (fun s41 => ?_) (fun s41 => ?_)
      · skip
        refine tr_val (ov_move rfl rfl) rfl rfl rfl ?_
        refine tr_val (ov_move rfl rfl) rfl rfl rfl ?_
        refine tr_val (ov_geq rfl rfl rfl) rfl rfl rfl ?_
        refine tr_val (ov_pick (vb := undef) rfl rfl rfl rfl) rfl rfl rfl ?_
        refine tr_val (ov_move rfl rfl) rfl rfl rfl ?_
        first | refine tr_split (t := 46) rfl (fun s46 => ?_) (fun s46 => ?_) | refine tr_splitb (t := 46) rfl (fun s46 => ?_) (fun s46 => ?_)
        · skip
          refine tr_pass rfl rfl rfl ?_
          refine tr_pass rfl rfl rfl ?_
          refine tr_pass rfl rfl rfl ?_
          refine tr_pass rfl rfl rfl ?_
          refine tr_pass rfl rfl rfl ?_
          refine tr_pass rfl rfl rfl ?_
          refine tr_val (ov_pick (vb := undef) rfl rfl rfl rfl) rfl rfl rfl ?_
          refine tr_val (ov_move rfl rfl) rfl rfl rfl ?_
          refine tr_pass rfl rfl rfl ?_
          refine tr_pass rfl rfl rfl ?_
          refine tr_pass rfl rfl rfl ?_
          refine tr_pass rfl rfl rfl ?_
          refine tr_pass rfl rfl rfl ?_
          refine tr_pass rfl rfl rfl ?_
          refine tr_pass rfl rfl rfl ?_
          refine tr_pass rfl rfl rfl ?_
          refine tr_pass rfl rfl rfl ?_
          refine tr_pass rfl rfl rfl ?_
          refine tr_pass rfl rfl rfl ?_
          refine tr_pass rfl rfl rfl ?_
          refine tr_pass rfl rfl rfl ?_
          refine tr_val (ov_pick (vb := undef) rfl rfl rfl rfl) rfl rfl rfl ?_
          refine tr_val (ov_move rfl rfl) rfl rfl rfl ?_
          refine tr_pass rfl rfl rfl ?_
          refine tr_pass rfl rfl rfl ?_
          refine tr_pass rfl rfl rfl ?_
          refine tr_pass rfl rfl rfl ?_
          refine tr_pass rfl rfl rfl ?_
          refine tr_pass rfl rfl rfl ?_
          refine tr_pass rfl rfl rfl ?_
          refine tr_pass rfl rfl rfl ?_
          refine tr_val (ov_pick (vb := undef) rfl rfl rfl rfl) rfl rfl rfl ?_
          exact tr_nil (hK9 _ _ (Sub.consE rfl (congrArg Value.bool (by first | rfl | exact (eqF (by omega)).symm | (exfalso; omega))) (Sub.cons rfl (Sub.cons rfl (Sub.cons rfl (Sub.cons rfl (Sub.cons rfl (Sub.cons rfl (Sub.cons rfl (Sub.cons rfl Sub.nil))))))))) (H))
        · skip
          refine tr_val (ov_move rfl rfl) rfl rfl rfl ?_
          refine tr_val (ov_eql rfl rfl rfl) rfl rfl rfl ?_
          refine tr_val (ov_move rfl rfl) rfl rfl rfl ?_
          first | refine tr_split (t := 49) rfl (fun s49 => ?_) (fun s49 => ?_) | refine tr_splitb (t := 49) rfl (fun s49 => ?_) (fun s49 => ?_)
          · skip
            refine tr_val (ov_move rfl rfl) rfl rfl rfl ?_
            refine tr_val (ov_neq rfl rfl rfl) rfl rfl rfl ?_
            refine tr_val (ov_pick (vb := undef) rfl rfl rfl rfl) rfl rfl rfl ?_
            refine tr_val (ov_pick_f (va := undef) rfl rfl rfl rfl) rfl rfl rfl ?_
            refine tr_val (ov_move rfl rfl) rfl rfl rfl ?_
            first | refine tr_split (t := 54) rfl (fun s54 => ?_) (fun s54 => ?_) | refine tr_splitb (t := 54) rfl (fun s54 => ?_) (fun s54 => ?_)
            · skip
              refine tr_pass rfl rfl rfl ?_
              refine tr_pass rfl rfl rfl ?_
              refine tr_pass rfl rfl rfl ?_
              refine tr_pass rfl rfl rfl ?_
              refine tr_pass rfl rfl rfl ?_
              refine tr_pass rfl rfl rfl ?_
              refine tr_pass rfl rfl rfl ?_
              refine tr_pass rfl rfl rfl ?_
              refine tr_pass rfl rfl rfl ?_
              refine tr_pass rfl rfl rfl ?_
              refine tr_pass rfl rfl rfl ?_
              refine tr_pass rfl rfl rfl ?_
              refine tr_pass rfl rfl rfl ?_
              refine tr_val (ov_pick (vb := undef) rfl rfl rfl rfl) rfl rfl rfl ?_
              refine tr_val (ov_move rfl rfl) rfl rfl rfl ?_
              refine tr_pass rfl rfl rfl ?_
              refine tr_pass rfl rfl rfl ?_
              refine tr_pass rfl rfl rfl ?_
              refine tr_pass rfl rfl rfl ?_
              refine tr_pass rfl rfl rfl ?_
              refine tr_pass rfl rfl rfl ?_
              refine tr_pass rfl rfl rfl ?_
              refine tr_pass rfl rfl rfl ?_
              refine tr_val (ov_pick (vb := undef) rfl rfl rfl rfl) rfl rfl rfl ?_
              exact tr_nil (hK9 _ _ (Sub.consE rfl (congrArg Value.bool (by first | rfl | exact (eqF (by omega)).symm | (exfalso; omega))) (Sub.cons rfl (Sub.cons rfl (Sub.cons rfl (Sub.cons rfl (Sub.cons rfl (Sub.cons rfl (Sub.cons rfl (Sub.cons rfl Sub.nil))))))))) (H))
            · skip
              refine tr_val (ov_move rfl rfl) rfl rfl rfl ?_
              refine tr_val (ov_move rfl rfl) rfl rfl rfl ?_
              refine tr_val (ov_geq rfl rfl rfl) rfl rfl rfl ?_
              refine tr_val (ov_move rfl rfl) rfl rfl rfl ?_
              first | refine tr_split (t := 58) rfl (fun s58 => ?_) (fun s58 => ?_) | refine tr_splitb (t := 58) rfl (fun s58 => ?_) (fun s58 => ?_)
              · skip
                refine tr_val (ov_move rfl rfl) rfl rfl rfl ?_
                refine tr_val (ov_move rfl rfl) rfl rfl rfl ?_
                refine tr_val (ov_lss rfl rfl rfl) rfl rfl rfl ?_
                refine tr_val (ov_move rfl rfl) rfl rfl rfl ?_
                first | refine tr_split (t := 62) rfl (fun s62 => ?_) (fun s62 => ?_) | refine tr_splitb (t := 62) rfl (fun s62 => ?_) (fun s62 => ?_)
                · skip
                  refine tr_pass rfl rfl rfl ?_
                  refine tr_pass rfl rfl rfl ?_
                  refine tr_pass rfl rfl rfl ?_
                  refine tr_val (ov_pick (vb := undef) rfl rfl rfl rfl) rfl rfl rfl ?_
                  refine tr_val (ov_pick (vb := undef) rfl rfl rfl rfl) rfl rfl rfl ?_
                  refine tr_val (ov_pick_f (va := undef) rfl rfl rfl rfl) rfl rfl rfl ?_
                  refine tr_val (ov_move rfl rfl) rfl rfl rfl ?_
                  refine tr_pass rfl rfl rfl ?_
                  refine tr_pass rfl rfl rfl ?_
                  refine tr_pass rfl rfl rfl ?_
                  refine tr_pass rfl rfl rfl ?_
                  refine tr_pass rfl rfl rfl ?_
                  refine tr_pass rfl rfl rfl ?_
                  refine tr_pass rfl rfl rfl ?_
                  refine tr_pass rfl rfl rfl ?_
                  refine tr_val (ov_pick (vb := undef) rfl rfl rfl rfl) rfl rfl rfl ?_
                  exact tr_nil (hK9 _ _ (Sub.consE rfl (congrArg Value.bool (by first | rfl | exact (eqF (by omega)).symm | (exfalso; omega))) (Sub.cons rfl (Sub.cons rfl (Sub.cons rfl (Sub.cons rfl (Sub.cons rfl (Sub.cons rfl (Sub.cons rfl (Sub.cons rfl Sub.nil))))))))) (H))
                · skip
                  refine tr_val (ov_move rfl rfl) rfl rfl rfl ?_
                  refine tr_val (ov_move rfl rfl) rfl rfl rfl ?_
                  refine tr_val (ov_gtr rfl rfl rfl) rfl rfl rfl ?_
                  refine tr_val (ov_pick_f (va := undef) rfl rfl rfl rfl) rfl rfl rfl ?_
                  refine tr_val (ov_pick (vb := undef) rfl rfl rfl rfl) rfl rfl rfl ?_
                  refine tr_val (ov_pick_f (va := undef) rfl rfl rfl rfl) rfl rfl rfl ?_
                  refine tr_val (ov_move rfl rfl) rfl rfl rfl ?_
                  first | refine tr_split (t := 69) rfl (fun s69 => ?_) (fun s69 => ?_) | refine tr_splitb (t := 69) rfl (fun s69 => ?_) (fun s69 => ?_)
                  · skip
                    refine tr_pass rfl rfl rfl ?_
                    refine tr_pass rfl rfl rfl ?_
                    refine tr_pass rfl rfl rfl ?_
                    refine tr_pass rfl rfl rfl ?_
                    refine tr_pass rfl rfl rfl ?_
                    refine tr_pass rfl rfl rfl ?_
                    refine tr_pass rfl rfl rfl ?_
                    refine tr_pass rfl rfl rfl ?_
                    refine tr_val (ov_pick (vb := undef) rfl rfl rfl rfl) rfl rfl rfl ?_
                    exact tr_nil (hK9 _ _ (Sub.consE rfl (congrArg Value.bool (by first | rfl | exact (eqF (by omega)).symm | (exfalso; omega))) (Sub.cons rfl (Sub.cons rfl (Sub.cons rfl (Sub.cons rfl (Sub.cons rfl (Sub.cons rfl (Sub.cons rfl (Sub.cons rfl Sub.nil))))))))) (H))
                  · skip
                    refine tr_val (ov_move rfl rfl) rfl rfl rfl ?_
                    refine tr_val (ov_move rfl rfl) rfl rfl rfl ?_
                    refine tr_val (ov_lss rfl rfl rfl) rfl rfl rfl ?_
                    refine tr_val (ov_move rfl rfl) rfl rfl rfl ?_
                    first | refine tr_split (t := 73) rfl (fun s73 => ?_) (fun s73 => ?_) | refine tr_splitb (t := 73) rfl (fun s73 => ?_) (fun s73 => ?_)
                    · skip
                      refine tr_val (ov_move rfl rfl) rfl rfl rfl ?_
                      refine tr_val (ov_move rfl rfl) rfl rfl rfl ?_
                      refine tr_val (ov_neq rfl rfl rfl) rfl rfl rfl ?_
                      refine tr_val (ov_pick (vb := undef) rfl rfl rfl rfl) rfl rfl rfl ?_
                      refine tr_val (ov_pick_f (va := undef) rfl rfl rfl rfl) rfl rfl rfl ?_
                      exact tr_nil (hK9 _ _ (Sub.consE rfl (congrArg Value.bool (by first | rfl | exact (eqF (by omega)).symm | (exfalso; omega))) (Sub.cons rfl (Sub.cons rfl (Sub.cons rfl (Sub.cons rfl (Sub.cons rfl (Sub.cons rfl (Sub.cons rfl (Sub.cons rfl Sub.nil))))))))) (H))
                    · skip
                      refine tr_pass rfl rfl rfl ?_
                      refine tr_pass rfl rfl rfl ?_
                      refine tr_pass rfl rfl rfl ?_
                      refine tr_val (ov_pick_f (va := undef) rfl rfl rfl rfl) rfl rfl rfl ?_
                      refine tr_val (ov_pick_f (va := undef) rfl rfl rfl rfl) rfl rfl rfl ?_
                      exact tr_nil (hK9 _ _ (Sub.consE rfl (congrArg Value.bool (by first | rfl | exact (eqF (by omega)).symm | (exfalso; omega))) (Sub.cons rfl (Sub.cons rfl (Sub.cons rfl (Sub.cons rfl (Sub.cons rfl (Sub.cons rfl (Sub.cons rfl (Sub.cons rfl Sub.nil))))))))) (H))
              · skip
                refine tr_pass rfl rfl rfl ?_
                refine tr_pass rfl rfl rfl ?_
                refine tr_pass rfl rfl rfl ?_
                refine tr_pass rfl rfl rfl ?_
                refine tr_pass rfl rfl rfl ?_
                refine tr_pass rfl rfl rfl ?_
                refine tr_pass rfl rfl rfl ?_
                refine tr_pass rfl rfl rfl ?_
                refine tr_val (ov_pick_f (va := undef) rfl rfl rfl rfl) rfl rfl rfl ?_
                refine tr_val (ov_pick_f (va := undef) rfl rfl rfl rfl) rfl rfl rfl ?_
                refine tr_val (ov_move rfl rfl) rfl rfl rfl ?_
                refine tr_val (ov_move rfl rfl) rfl rfl rfl ?_
                refine tr_val (ov_move rfl rfl) rfl rfl rfl ?_
                refine tr_val (ov_lss rfl rfl rfl) rfl rfl rfl ?_
                refine tr_val (ov_move rfl rfl) rfl rfl rfl ?_
                first | refine tr_split (t := 73) rfl (fun s73 => ?_) (fun s73 => ?_) | refine tr_splitb (t := 73) rfl (fun s73 => ?_) (fun s73 => ?_)
                · skip
                  refine tr_val (ov_move rfl rfl) rfl rfl rfl ?_
                  refine tr_val (ov_move rfl rfl) rfl rfl rfl ?_
                  refine tr_val (ov_neq rfl rfl rfl) rfl rfl rfl ?_
                  refine tr_val (ov_pick (vb := undef) rfl rfl rfl rfl) rfl rfl rfl ?_
                  refine tr_val (ov_pick_f (va := undef) rfl rfl rfl rfl) rfl rfl rfl ?_
                  exact tr_nil (hK9 _ _ (Sub.consE rfl (congrArg Value.bool (by first | rfl | exact (eqF (by omega)).symm | (exfalso; omega))) (Sub.cons rfl (Sub.cons rfl (Sub.cons rfl (Sub.cons rfl (Sub.cons rfl (Sub.cons rfl (Sub.cons rfl (Sub.cons rfl Sub.nil))))))))) (H))
                · skip
                  refine tr_pass rfl rfl rfl ?_
                  refine tr_pass rfl rfl rfl ?_
                  refine tr_pass rfl rfl rfl ?_
                  refine tr_val (ov_pick_f (va := undef) rfl rfl rfl rfl) rfl rfl rfl ?_
                  refine tr_val (ov_pick_f (va := undef) rfl rfl rfl rfl) rfl rfl rfl ?_
                  exact tr_nil (hK9 _ _ (Sub.consE rfl (congrArg Value.bool (by first | rfl | exact (eqF (by omega)).symm | (exfalso; omega))) (Sub.cons rfl (Sub.cons rfl (Sub.cons rfl (Sub.cons rfl (Sub.cons rfl (Sub.cons rfl (Sub.cons rfl (Sub.cons rfl Sub.nil))))))))) (H))
          · skip
            refine tr_pass rfl rfl rfl ?_
            refine tr_pass rfl rfl rfl ?_
            refine tr_val (ov_pick_f (va := undef) rfl rfl rfl rfl) rfl rfl rfl ?_
            refine tr_val (ov_pick_f (va := undef) rfl rfl rfl rfl) rfl rfl rfl ?_
            refine tr_val (ov_move rfl rfl) rfl rfl rfl ?_
            refine tr_val (ov_move rfl rfl) rfl rfl rfl ?_
            refine tr_val (ov_move rfl rfl) rfl rfl rfl ?_
            refine tr_val (ov_geq rfl rfl rfl) rfl rfl rfl ?_
            refine tr_val (ov_move rfl rfl) rfl rfl rfl ?_
            first | refine tr_split (t := 58) rfl (fun s58 => ?_) (fun s58 => ?_) | refine tr_splitb (t := 58) rfl (fun s58 => ?_) (fun s58 => ?_)
            · skip
              refine tr_val (ov_move rfl rfl) rfl rfl rfl ?_
              refine tr_val (ov_move rfl rfl) rfl rfl rfl ?_
              refine tr_val (ov_lss rfl rfl rfl) rfl rfl rfl ?_
              refine tr_val (ov_move rfl rfl) rfl rfl rfl ?_
              first | refine tr_split (t := 62) rfl (fun s62 => ?_) (fun s62 => ?_) | refine tr_splitb (t := 62) rfl (fun s62 => ?_) (fun s62 => ?_)
              · skip
                refine tr_pass rfl rfl rfl ?_
                refine tr_pass rfl rfl rfl ?_
                refine tr_pass rfl rfl rfl ?_
                refine tr_val (ov_pick (vb := undef) rfl rfl rfl rfl) rfl rfl rfl ?_
                refine tr_val (ov_pick (vb := undef) rfl rfl rfl rfl) rfl rfl rfl ?_
                refine tr_val (ov_pick_f (va := undef) rfl rfl rfl rfl) rfl rfl rfl ?_
                refine tr_val (ov_move rfl rfl) rfl rfl rfl ?_
                refine tr_pass rfl rfl rfl ?_
                refine tr_pass rfl rfl rfl ?_
                refine tr_pass rfl rfl rfl ?_
                refine tr_pass rfl rfl rfl ?_
                refine tr_pass rfl rfl rfl ?_
                refine tr_pass rfl rfl rfl ?_
                refine tr_pass rfl rfl rfl ?_
                refine tr_pass rfl rfl rfl ?_
                refine tr_val (ov_pick (vb := undef) rfl rfl rfl rfl) rfl rfl rfl ?_
                exact tr_nil (hK9 _ _ (Sub.consE rfl (congrArg Value.bool (by first | rfl | exact (eqF (by omega)).symm | (exfalso; omega))) (Sub.cons rfl (Sub.cons rfl (Sub.cons rfl (Sub.cons rfl (Sub.cons rfl (Sub.cons rfl (Sub.cons rfl (Sub.cons rfl Sub.nil))))))))) (H))
              · skip
                refine tr_val (ov_move rfl rfl) rfl rfl rfl ?_
                refine tr_val (ov_move rfl rfl) rfl rfl rfl ?_
                refine tr_val (ov_gtr rfl rfl rfl) rfl rfl rfl ?_
                refine tr_val (ov_pick_f (va := undef) rfl rfl rfl rfl) rfl rfl rfl ?_
                refine tr_val (ov_pick (vb := undef) rfl rfl rfl rfl) rfl rfl rfl ?_
                refine tr_val (ov_pick_f (va := undef) rfl rfl rfl rfl) rfl rfl rfl ?_
                refine tr_val (ov_move rfl rfl) rfl rfl rfl ?_
                first | refine tr_split (t := 69) rfl (fun s69 => ?_) (fun s69 => ?_) | refine tr_splitb (t := 69) rfl (fun s69 => ?_) (fun s69 => ?_)
                · skip
                  refine tr_pass rfl rfl rfl ?_
                  refine tr_pass rfl rfl rfl ?_
                  refine tr_pass rfl rfl rfl ?_
                  refine tr_pass rfl rfl rfl ?_
                  refine tr_pass rfl rfl rfl ?_
                  refine tr_pass rfl rfl rfl ?_
                  refine tr_pass rfl rfl rfl ?_
                  refine tr_pass rfl rfl rfl ?_
                  refine tr_val (ov_pick (vb := undef) rfl rfl rfl rfl) rfl rfl rfl ?_
                  exact tr_nil (hK9 _ _ (Sub.consE rfl (congrArg Value.bool (by first | rfl | exact (eqF (by omega)).symm | (exfalso; omega))) (Sub.cons rfl (Sub.cons rfl (Sub.cons rfl (Sub.cons rfl (Sub.cons rfl (Sub.cons rfl (Sub.cons rfl (Sub.cons rfl Sub.nil))))))))) (H))
                · skip
                  refine tr_val (ov_move rfl rfl) rfl rfl rfl ?_
                  refine tr_val (ov_move rfl rfl) rfl rfl rfl ?_
                  refine tr_val (ov_lss rfl rfl rfl) rfl rfl rfl ?_
                  refine tr_val (ov_move rfl rfl) rfl rfl rfl ?_
                  first | refine tr_split (t := 73) rfl (fun s73 => ?_) (fun s73 => ?_) | refine tr_splitb (t := 73) rfl (fun s73 => ?_) (fun s73 => ?_)
                  · skip
                    refine tr_val (ov_move rfl rfl) rfl rfl rfl ?_
                    refine tr_val (ov_move rfl rfl) rfl rfl rfl ?_
                    refine tr_val (ov_neq rfl rfl rfl) rfl rfl rfl ?_
                    refine tr_val (ov_pick (vb := undef) rfl rfl rfl rfl) rfl rfl rfl ?_
                    refine tr_val (ov_pick_f (va := undef) rfl rfl rfl rfl) rfl rfl rfl ?_
                    exact tr_nil (hK9 _ _ (Sub.consE rfl (congrArg Value.bool (by first | rfl | exact (eqF (by omega)).symm | (exfalso; omega))) (Sub.cons rfl (Sub.cons rfl (Sub.cons rfl (Sub.cons rfl (Sub.cons rfl (Sub.cons rfl (Sub.cons rfl (Sub.cons rfl Sub.nil))))))))) (H))
                  · skip
                    refine tr_pass rfl rfl rfl ?_
                    refine tr_pass rfl rfl rfl ?_
                    refine tr_pass rfl rfl rfl ?_
                    refine tr_val (ov_pick_f (va := undef) rfl rfl rfl rfl) rfl rfl rfl ?_
                    refine tr_val (ov_pick_f (va := undef) rfl rfl rfl rfl) rfl rfl rfl ?_
                    exact tr_nil (hK9 _ _ (Sub.consE rfl (congrArg Value.bool (by first | rfl | exact (eqF (by omega)).symm | (exfalso; omega))) (Sub.cons rfl (Sub.cons rfl (Sub.cons rfl (Sub.cons rfl (Sub.cons rfl (Sub.cons rfl (Sub.cons rfl (Sub.cons rfl Sub.nil))))))))) (H))
            · skip
              refine tr_pass rfl rfl rfl ?_
              refine tr_pass rfl rfl rfl ?_
              refine tr_pass rfl rfl rfl ?_
              refine tr_pass rfl rfl rfl ?_
              refine tr_pass rfl rfl rfl ?_
              refine tr_pass rfl rfl rfl ?_
              refine tr_pass rfl rfl rfl ?_
              refine tr_pass rfl rfl rfl ?_
              refine tr_val (ov_pick_f (va := undef) rfl rfl rfl rfl) rfl rfl rfl ?_
              refine tr_val (ov_pick_f (va := undef) rfl rfl rfl rfl) rfl rfl rfl ?_
              refine tr_val (ov_move rfl rfl) rfl rfl rfl ?_
              refine tr_val (ov_move rfl rfl) rfl rfl rfl ?_
              refine tr_val (ov_move rfl rfl) rfl rfl rfl ?_
              refine tr_val (ov_lss rfl rfl rfl) rfl rfl rfl ?_
              refine tr_val (ov_move rfl rfl) rfl rfl rfl ?_
              first | refine tr_split (t := 73) rfl (fun s73 => ?_) (fun s73 => ?_) | refine tr_splitb (t := 73) rfl (fun s73 => ?_) (fun s73 => ?_)
              · skip
                refine tr_val (ov_move rfl rfl) rfl rfl rfl ?_
                refine tr_val (ov_move rfl rfl) rfl rfl rfl ?_
                refine tr_val (ov_neq rfl rfl rfl) rfl rfl rfl ?_
                refine tr_val (ov_pick (vb := undef) rfl rfl rfl rfl) rfl rfl rfl ?_
                refine tr_val (ov_pick_f (va := undef) rfl rfl rfl rfl) rfl rfl rfl ?_
                exact tr_nil (hK9 _ _ (Sub.consE rfl (congrArg Value.bool (by first | rfl | exact (eqF (by omega)).symm | (exfalso; omega))) (Sub.cons rfl (Sub.cons rfl (Sub.cons rfl (Sub.cons rfl (Sub.cons rfl (Sub.cons rfl (Sub.cons rfl (Sub.cons rfl Sub.nil))))))))) (H))
              · skip
                refine tr_pass rfl rfl rfl ?_
                refine tr_pass rfl rfl rfl ?_
                refine tr_pass rfl rfl rfl ?_
                refine tr_val (ov_pick_f (va := undef) rfl rfl rfl rfl) rfl rfl rfl ?_
                refine tr_val (ov_pick_f (va := undef) rfl rfl rfl rfl) rfl rfl rfl ?_
                exact tr_nil (hK9 _ _ (Sub.consE rfl (congrArg Value.bool (by first | rfl | exact (eqF (by omega)).symm | (exfalso; omega))) (Sub.cons rfl (Sub.cons rfl (Sub.cons rfl (Sub.cons rfl (Sub.cons rfl (Sub.cons rfl (Sub.cons rfl (Sub.cons rfl Sub.nil))))))))) (H))
      · skip
        refine tr_pass rfl rfl rfl ?_
        refine tr_pass rfl rfl rfl ?_
        refine tr_pass rfl rfl rfl ?_
        refine tr_val (ov_pick_f (va := undef) rfl rfl rfl rfl) rfl rfl rfl ?_
        refine tr_val (ov_move rfl rfl) rfl rfl rfl ?_
        refine tr_val (ov_move rfl rfl) rfl rfl rfl ?_
        refine tr_val (ov_eql rfl rfl rfl) rfl rfl rfl ?_
        refine tr_val (ov_move rfl rfl) rfl rfl rfl ?_
        first | refine tr_split (t := 49) rfl (fun s49 => ?_) (fun s49 => ?_) | refine tr_splitb (t := 49) rfl (fun s49 => ?_) (fun s49 => ?_)
        · skip
          refine tr_val (ov_move rfl rfl) rfl rfl rfl ?_
          refine tr_val (ov_neq rfl rfl rfl) rfl rfl rfl ?_
          refine tr_val (ov_pick (vb := undef) rfl rfl rfl rfl) rfl rfl rfl ?_
          refine tr_val (ov_pick_f (va := undef) rfl rfl rfl rfl) rfl rfl rfl ?_
          refine tr_val (ov_move rfl rfl) rfl rfl rfl ?_
          first | refine tr_split (t := 54) rfl (fun s54 => ?_) (fun s54 => ?_) | refine tr_splitb (t := 54) rfl (fun s54 => ?_) (fun s54 => ?_)
          · skip
            refine tr_pass rfl rfl rfl ?_
            refine tr_pass rfl rfl rfl ?_
            refine tr_pass rfl rfl rfl ?_
            refine tr_pass rfl rfl rfl ?_
            refine tr_pass rfl rfl rfl ?_
            refine tr_pass rfl rfl rfl ?_
            refine tr_pass rfl rfl rfl ?_
            refine tr_pass rfl rfl rfl ?_
            refine tr_pass rfl rfl rfl ?_
            refine tr_pass rfl rfl rfl ?_
            refine tr_pass rfl rfl rfl ?_
            refine tr_pass rfl rfl rfl ?_
            refine tr_pass rfl rfl rfl ?_
            refine tr_val (ov_pick (vb := undef) rfl rfl rfl rfl) rfl rfl rfl ?_
            refine tr_val (ov_move rfl rfl) rfl rfl rfl ?_
            refine tr_pass rfl rfl rfl ?_
            refine tr_pass rfl rfl rfl ?_
            refine tr_pass rfl rfl rfl ?_
            refine tr_pass rfl rfl rfl ?_
            refine tr_pass rfl rfl rfl ?_
            refine tr_pass rfl rfl rfl ?_
            refine tr_pass rfl rfl rfl ?_
            refine tr_pass rfl rfl rfl ?_
            refine tr_val (ov_pick (vb := undef) rfl rfl rfl rfl) rfl rfl rfl ?_
            exact tr_nil (hK9 _ _ (Sub.consE rfl (congrArg Value.bool (by first | rfl | exact (eqF (by omega)).symm | (exfalso; omega))) (Sub.cons rfl (Sub.cons rfl (Sub.cons rfl (Sub.cons rfl (Sub.cons rfl (Sub.cons rfl (Sub.cons rfl (Sub.cons rfl Sub.nil))))))))) (H))
          · skip
            refine tr_val (ov_move rfl rfl) rfl rfl rfl ?_
            refine tr_val (ov_move rfl rfl) rfl rfl rfl ?_
            refine tr_val (ov_geq rfl rfl rfl) rfl rfl rfl ?_
            refine tr_val (ov_move rfl rfl) rfl rfl rfl ?_
            first | refine tr_split (t := 58) rfl (fun s58 => ?_) (fun s58 => ?_) | refine tr_splitb (t := 58) rfl (fun s58 => ?_) (fun s58 => ?_)
            · skip
              refine tr_val (ov_move rfl rfl) rfl rfl rfl ?_
              refine tr_val (ov_move rfl rfl) rfl rfl rfl ?_
              refine tr_val (ov_lss rfl rfl rfl) rfl rfl rfl ?_
              refine tr_val (ov_move rfl rfl) rfl rfl rfl ?_
              first | refine tr_split (t := 62) rfl (fun s62 => ?_) (fun s62 => ?_) | refine tr_splitb (t := 62) rfl (fun s62 => ?_) (fun s62 => ?_)
              · skip
                refine tr_pass rfl rfl rfl ?_
                refine tr_pass rfl rfl rfl ?_
                refine tr_pass rfl rfl rfl ?_
                refine tr_val (ov_pick (vb := undef) rfl rfl rfl rfl) rfl rfl rfl ?_
                refine tr_val (ov_pick (vb := undef) rfl rfl rfl rfl) rfl rfl rfl ?_
                refine tr_val (ov_pick_f (va := undef) rfl rfl rfl rfl) rfl rfl rfl ?_
                refine tr_val (ov_move rfl rfl) rfl rfl rfl ?_
                refine tr_pass rfl rfl rfl ?_
                refine tr_pass rfl rfl rfl ?_
                refine tr_pass rfl rfl rfl ?_
                refine tr_pass rfl rfl rfl ?_
                refine tr_pass rfl rfl rfl ?_
                refine tr_pass rfl rfl rfl ?_
                refine tr_pass rfl rfl rfl ?_
                refine tr_pass rfl rfl rfl ?_
                refine tr_val (ov_pick (vb := undef) rfl rfl rfl rfl) rfl rfl rfl ?_
                exact tr_nil (hK9 _ _ (Sub.consE rfl (congrArg Value.bool (by first | rfl | exact (eqF (by omega)).symm | (exfalso; omega))) (Sub.cons rfl (Sub.cons rfl (Sub.cons rfl (Sub.cons rfl (Sub.cons rfl (Sub.cons rfl (Sub.cons rfl (Sub.cons rfl Sub.nil))))))))) (H))
              · skip
                refine tr_val (ov_move rfl rfl) rfl rfl rfl ?_
                refine tr_val (ov_move rfl rfl) rfl rfl rfl ?_
                refine tr_val (ov_gtr rfl rfl rfl) rfl rfl rfl ?_
                refine tr_val (ov_pick_f (va := undef) rfl rfl rfl rfl) rfl rfl rfl ?_
                refine tr_val (ov_pick (vb := undef) rfl rfl rfl rfl) rfl rfl rfl ?_
                refine tr_val (ov_pick_f (va := undef) rfl rfl rfl rfl) rfl rfl rfl ?_
                refine tr_val (ov_move rfl rfl) rfl rfl rfl ?_
                first | refine tr_split (t := 69) rfl (fun s69 => ?_) (fun s69 => ?_) | refine tr_splitb (t := 69) rfl (fun s69 => ?_) (fun s69 => ?_)
                · skip
                  refine tr_pass rfl rfl rfl ?_
                  refine tr_pass rfl rfl rfl ?_
                  refine tr_pass rfl rfl rfl ?_
                  refine tr_pass rfl rfl rfl ?_
                  refine tr_pass rfl rfl rfl ?_
                  refine tr_pass rfl rfl rfl ?_
                  refine tr_pass rfl rfl rfl ?_
                  refine tr_pass rfl rfl rfl ?_
                  refine tr_val (ov_pick (vb := undef) rfl rfl rfl rfl) rfl rfl rfl ?_
                  exact tr_nil (hK9 _ _ (Sub.consE rfl (congrArg Value.bool (by first | rfl | exact (eqF (by omega)).symm | (exfalso; omega))) (Sub.cons rfl (Sub.cons rfl (Sub.cons rfl (Sub.cons rfl (Sub.cons rfl (Sub.cons rfl (Sub.cons rfl (Sub.cons rfl Sub.nil))))))))) (H))
                · skip
                  refine tr_val (ov_move rfl rfl) rfl rfl rfl ?_
                  refine tr_val (ov_move rfl rfl) rfl rfl rfl ?_
                  refine tr_val (ov_lss rfl rfl rfl) rfl rfl rfl ?_
                  refine tr_val (ov_move rfl rfl) rfl rfl rfl ?_
                  first | refine tr_split (t := 73) rfl (fun s73 => ?_) (fun s73 => ?_) | refine tr_splitb (t := 73) rfl (fun s73 => ?_) (fun s73 => ?_)
                  · skip
                    refine tr_val (ov_move rfl rfl) rfl rfl rfl ?_
                    refine tr_val (ov_move rfl rfl) rfl rfl rfl ?_
                    refine tr_val (ov_neq rfl rfl rfl) rfl rfl rfl ?_
                    refine tr_val (ov_pick (vb := undef) rfl rfl rfl rfl) rfl rfl rfl ?_
                    refine tr_val (ov_pick_f (va := undef) rfl rfl rfl rfl) rfl rfl rfl ?_
                    exact tr_nil (hK9 _ _ (Sub.consE rfl (congrArg Value.bool (by first | rfl | exact (eqF (by omega)).symm | (exfalso; omega))) (Sub.cons rfl (Sub.cons rfl (Sub.cons rfl (Sub.cons rfl (Sub.cons rfl (Sub.cons rfl (Sub.cons rfl (Sub.cons rfl Sub.nil))))))))) (H))
                  · skip
                    refine tr_pass rfl rfl rfl ?_
                    refine tr_pass rfl rfl rfl ?_
                    refine tr_pass rfl rfl rfl ?_
                    refine tr_val (ov_pick_f (va := undef) rfl rfl rfl rfl) rfl rfl rfl ?_
                    refine tr_val (ov_pick_f (va := undef) rfl rfl rfl rfl) rfl rfl rfl ?_
                    exact tr_nil (hK9 _ _ (Sub.consE rfl (congrArg Value.bool (by first | rfl | exact (eqF (by omega)).symm | (exfalso; omega))) (Sub.cons rfl (Sub.cons rfl (Sub.cons rfl (Sub.cons rfl (Sub.cons rfl (Sub.cons rfl (Sub.cons rfl (Sub.cons rfl Sub.nil))))))))) (H))
            · skip
              refine tr_pass rfl rfl rfl ?_
              refine tr_pass rfl rfl rfl ?_
              refine tr_pass rfl rfl rfl ?_
              refine tr_pass rfl rfl rfl ?_
              refine tr_pass rfl rfl rfl ?_
              refine tr_pass rfl rfl rfl ?_
              refine tr_pass rfl rfl rfl ?_
              refine tr_pass rfl rfl rfl ?_
              refine tr_val (ov_pick_f (va := undef) rfl rfl rfl rfl) rfl rfl rfl ?_
              refine tr_val (ov_pick_f (va := undef) rfl rfl rfl rfl) rfl rfl rfl ?_
              refine tr_val (ov_move rfl rfl) rfl rfl rfl ?_
              refine tr_val (ov_move rfl rfl) rfl rfl rfl ?_
              refine tr_val (ov_move rfl rfl) rfl rfl rfl ?_
              refine tr_val (ov_lss rfl rfl rfl) rfl rfl rfl ?_
              refine tr_val (ov_move rfl rfl) rfl rfl rfl ?_
              first | refine tr_split (t := 73) rfl (fun s73 => ?_) (fun s73 => ?_) | refine tr_splitb (t := 73) rfl (fun s73 => ?_) (fun s73 => ?_)
              · skip
                refine tr_val (ov_move rfl rfl) rfl rfl rfl ?_
                refine tr_val (ov_move rfl rfl) rfl rfl rfl ?_
                refine tr_val (ov_neq rfl rfl rfl) rfl rfl rfl ?_
                refine tr_val (ov_pick (vb := undef) rfl rfl rfl rfl) rfl rfl rfl ?_
                refine tr_val (ov_pick_f (va := undef) rfl rfl rfl rfl) rfl rfl rfl ?_
                exact tr_nil (hK9 _ _ (Sub.consE rfl (congrArg Value.bool (by first | rfl | exact (eqF (by omega)).symm | (exfalso; omega))) (Sub.cons rfl (Sub.cons rfl (Sub.cons rfl (Sub.cons rfl (Sub.cons rfl (Sub.cons rfl (Sub.cons rfl (Sub.cons rfl Sub.nil))))))))) (H))
              · skip
                refine tr_pass rfl rfl rfl ?_
                refine tr_pass rfl rfl rfl ?_
                refine tr_pass rfl rfl rfl ?_
                refine tr_val (ov_pick_f (va := undef) rfl rfl rfl rfl) rfl rfl rfl ?_
                refine tr_val (ov_pick_f (va := undef) rfl rfl rfl rfl) rfl rfl rfl ?_
                exact tr_nil (hK9 _ _ (Sub.consE rfl (congrArg Value.bool (by first | rfl | exact (eqF (by omega)).symm | (exfalso; omega))) (Sub.cons rfl (Sub.cons rfl (Sub.cons rfl (Sub.cons rfl (Sub.cons rfl (Sub.cons rfl (Sub.cons rfl (Sub.cons rfl Sub.nil))))))))) (H))
        · skip
          refine tr_pass rfl rfl rfl ?_
          refine tr_pass rfl rfl rfl ?_
          refine tr_val (ov_pick_f (va := undef) rfl rfl rfl rfl) rfl rfl rfl ?_
          refine tr_val (ov_pick_f (va := undef) rfl rfl rfl rfl) rfl rfl rfl ?_
          refine tr_val (ov_move rfl rfl) rfl rfl rfl ?_
          refine tr_val (ov_move rfl rfl) rfl rfl rfl ?_
          refine tr_val (ov_move rfl rfl) rfl rfl rfl ?_
          refine tr_val (ov_geq rfl rfl rfl) rfl rfl rfl ?_
          refine tr_val (ov_move rfl rfl) rfl rfl rfl ?_
          first | refine tr_split (t := 58) rfl (fun s58 => ?_) (fun s58 => ?_) | refine tr_splitb (t := 58) rfl (fun s58 => ?_) (fun s58 => ?_)
          · skip
            refine tr_val (ov_move rfl rfl) rfl rfl rfl ?_
            refine tr_val (ov_move rfl rfl) rfl rfl rfl ?_
            refine tr_val (ov_lss rfl rfl rfl) rfl rfl rfl ?_
            refine tr_val (ov_move rfl rfl) rfl rfl rfl ?_
            first | refine tr_split (t := 62) rfl (fun s62 => ?_) (fun s62 => ?_) | refine tr_splitb (t := 62) rfl (fun s62 => ?_) (fun s62 => ?_)
            · skip
              refine tr_pass rfl rfl rfl ?_
              refine tr_pass rfl rfl rfl ?_
              refine tr_pass rfl rfl rfl ?_
              refine tr_val (ov_pick (vb := undef) rfl rfl rfl rfl) rfl rfl rfl ?_
              refine tr_val (ov_pick (vb := undef) rfl rfl rfl rfl) rfl rfl rfl ?_
              refine tr_val (ov_pick_f (va := undef) rfl rfl rfl rfl) rfl rfl rfl ?_
              refine tr_val (ov_move rfl rfl) rfl rfl rfl ?_
              refine tr_pass rfl rfl rfl ?_
              refine tr_pass rfl rfl rfl ?_
              refine tr_pass rfl rfl rfl ?_
              refine tr_pass rfl rfl rfl ?_
              refine tr_pass rfl rfl rfl ?_
              refine tr_pass rfl rfl rfl ?_
              refine tr_pass rfl rfl rfl ?_
              refine tr_pass rfl rfl rfl ?_
              refine tr_val (ov_pick (vb := undef) rfl rfl rfl rfl) rfl rfl rfl ?_
              exact tr_nil (hK9 _ _ (Sub.consE rfl (congrArg Value.bool (by first | rfl | exact (eqF (by omega)).symm | (exfalso; omega))) (Sub.cons rfl (Sub.cons rfl (Sub.cons rfl (Sub.cons rfl (Sub.cons rfl (Sub.cons rfl (Sub.cons rfl (Sub.cons rfl Sub.nil))))))))) (H))
            · skip
              refine tr_val (ov_move rfl rfl) rfl rfl rfl ?_
              refine tr_val (ov_move rfl rfl) rfl rfl rfl ?_
              refine tr_val (ov_gtr rfl rfl rfl) rfl rfl rfl ?_
              refine tr_val (ov_pick_f (va := undef) rfl rfl rfl rfl) rfl rfl rfl ?_
              refine tr_val (ov_pick (vb := undef) rfl rfl rfl rfl) rfl rfl rfl ?_
              refine tr_val (ov_pick_f (va := undef) rfl rfl rfl rfl) rfl rfl rfl ?_
              refine tr_val (ov_move rfl rfl) rfl rfl rfl ?_
              first | refine tr_split (t := 69) rfl (fun s69 => ?_) (fun s69 => ?_) | refine tr_splitb (t := 69) rfl (fun s69 => ?_) (fun s69 => ?_)
              · skip
                refine tr_pass rfl rfl rfl ?_
                refine tr_pass rfl rfl rfl ?_
                refine tr_pass rfl rfl rfl ?_
                refine tr_pass rfl rfl rfl ?_
                refine tr_pass rfl rfl rfl ?_
                refine tr_pass rfl rfl rfl ?_
                refine tr_pass rfl rfl rfl ?_
                refine tr_pass rfl rfl rfl ?_
                refine tr_val (ov_pick (vb := undef) rfl rfl rfl rfl) rfl rfl rfl ?_
                exact tr_nil (hK9 _ _ (Sub.consE rfl (congrArg Value.bool (by first | rfl | exact (eqF (by omega)).symm | (exfalso; omega))) (Sub.cons rfl (Sub.cons rfl (Sub.cons rfl (Sub.cons rfl (Sub.cons rfl (Sub.cons rfl (Sub.cons rfl (Sub.cons rfl Sub.nil))))))))) (H))
              · skip
                refine tr_val (ov_move rfl rfl) rfl rfl rfl ?_
                refine tr_val (ov_move rfl rfl) rfl rfl rfl ?_
                refine tr_val (ov_lss rfl rfl rfl) rfl rfl rfl ?_
                refine tr_val (ov_move rfl rfl) rfl rfl rfl ?_
                first | refine tr_split (t := 73) rfl (fun s73 => ?_) (fun s73 => ?_) | refine tr_splitb (t := 73) rfl (fun s73 => ?_) (fun s73 => ?_)
                · skip
                  refine tr_val (ov_move rfl rfl) rfl rfl rfl ?_
                  refine tr_val (ov_move rfl rfl) rfl rfl rfl ?_
                  refine tr_val (ov_neq rfl rfl rfl) rfl rfl rfl ?_
                  refine tr_val (ov_pick (vb := undef) rfl rfl rfl rfl) rfl rfl rfl ?_
                  refine tr_val (ov_pick_f (va := undef) rfl rfl rfl rfl) rfl rfl rfl ?_
                  exact tr_nil (hK9 _ _ (Sub.consE rfl (congrArg Value.bool (by first | rfl | exact (eqF (by omega)).symm | (exfalso; omega))) (Sub.cons rfl (Sub.cons rfl (Sub.cons rfl (Sub.cons rfl (Sub.cons rfl (Sub.cons rfl (Sub.cons rfl (Sub.cons rfl Sub.nil))))))))) (H))
                · skip
                  refine tr_pass rfl rfl rfl ?_
                  refine tr_pass rfl rfl rfl ?_
                  refine tr_pass rfl rfl rfl ?_
                  refine tr_val (ov_pick_f (va := undef) rfl rfl rfl rfl) rfl rfl rfl ?_
                  refine tr_val (ov_pick_f (va := undef) rfl rfl rfl rfl) rfl rfl rfl ?_
                  exact tr_nil (hK9 _ _ (Sub.consE rfl (congrArg Value.bool (by first | rfl | exact (eqF (by omega)).symm | (exfalso; omega))) (Sub.cons rfl (Sub.cons rfl (Sub.cons rfl (Sub.cons rfl (Sub.cons rfl (Sub.cons rfl (Sub.cons rfl (Sub.cons rfl Sub.nil))))))))) (H))
          · skip
            refine tr_pass rfl rfl rfl ?_
            refine tr_pass rfl rfl rfl ?_
            refine tr_pass rfl rfl rfl ?_
            refine tr_pass rfl rfl rfl ?_
            refine tr_pass rfl rfl rfl ?_
            refine tr_pass rfl rfl rfl ?_
            refine tr_pass rfl rfl rfl ?_
            refine tr_pass rfl rfl rfl ?_
            refine tr_val (ov_pick_f (va := undef) rfl rfl rfl rfl) rfl rfl rfl ?_
            refine tr_val (ov_pick_f (va := undef) rfl rfl rfl rfl) rfl rfl rfl ?_
            refine tr_val (ov_move rfl rfl) rfl rfl rfl ?_
            refine tr_val (ov_move rfl rfl) rfl rfl rfl ?_
            refine tr_val (ov_move rfl rfl) rfl rfl rfl ?_
            refine tr_val (ov_lss rfl rfl rfl) rfl rfl rfl ?_
            refine tr_val (ov_move rfl rfl) rfl rfl rfl ?_
            first | refine tr_split (t := 73) rfl (fun s73 => ?_) (fun s73 => ?_) | refine tr_splitb (t := 73) rfl (fun s73 => ?_) (fun s73 => ?_)
            · skip
              refine tr_val (ov_move rfl rfl) rfl rfl rfl ?_
              refine tr_val (ov_move rfl rfl) rfl rfl rfl ?_
              refine tr_val (ov_neq rfl rfl rfl) rfl rfl rfl ?_
              refine tr_val (ov_pick (vb := undef) rfl rfl rfl rfl) rfl rfl rfl ?_
              refine tr_val (ov_pick_f (va := undef) rfl rfl rfl rfl) rfl rfl rfl ?_
              exact tr_nil (hK9 _ _ (Sub.consE rfl (congrArg Value.bool (by first | rfl | exact (eqF (by omega)).symm | (exfalso; omega))) (Sub.cons rfl (Sub.cons rfl (Sub.cons rfl (Sub.cons rfl (Sub.cons rfl (Sub.cons rfl (Sub.cons rfl (Sub.cons rfl Sub.nil))))))))) (H))
            · skip
              refine tr_pass rfl rfl rfl ?_
              refine tr_pass rfl rfl rfl ?_
              refine tr_pass rfl rfl rfl ?_
              refine tr_val (ov_pick_f (va := undef) rfl rfl rfl rfl) rfl rfl rfl ?_
              refine tr_val (ov_pick_f (va := undef) rfl rfl rfl rfl) rfl rfl rfl ?_
              exact tr_nil (hK9 _ _ (Sub.consE rfl (congrArg Value.bool (by first | rfl | exact (eqF (by omega)).symm | (exfalso; omega))) (Sub.cons rfl (Sub.cons rfl (Sub.cons rfl (Sub.cons rfl (Sub.cons rfl (Sub.cons rfl (Sub.cons rfl (Sub.cons rfl Sub.nil))))))))) (H))
    · skip
      refine hK8 _ _ (TrC.keep [78, 14, 24, 10, 0, 1, 2, 3, 4] ?_)
      show TrC _ _ _ _ [(78, _), (14, _), (24, _), (10, _), (0, _), (1, _), (2, _), (3, _), (4, _)] _ _
      refine tr_cond_f rfl (rfl) ?_
      refine tr_skip (hK7 _ _ (TrC.keep [78, 14, 24, 10, 0, 1, 2, 3, 4] ?_))
      show TrC _ _ _ _ [(78, _), (14, _), (24, _), (10, _), (0, _), (1, _), (2, _), (3, _), (4, _)] _ _
      refine tr_seq (fun K10 hK10 => ?_)
      -- region 7: law.go:77
      refine tr_region ?_
      refine tr_val (ov_move rfl rfl) rfl rfl rfl ?_
      refine tr_makeSlice false H rfl Try.underlying31 info4 rfl rfl rfl lenBo (by decide) rfl rfl (by omega) (by show Try.t4.bytes * _ ≤ _; rw [show Try.t4.bytes = 1 from rfl]; omega) (by omega) rfl rfl rfl ?_
      intro A2 c2 w9 H
      refine tr_val (ov_assign rfl rfl) rfl rfl rfl ?_
      refine tr_nil (hK10 _ _ (TrC.keep [15, 78, 14, 24, 10, 0, 1, 2, 3, 4] ?_))
      show TrC _ _ _ _ [(15, _), (78, _), (14, _), (24, _), (10, _), (0, _), (1, _), (2, _), (3, _), (4, _)] _ _
      refine tr_seq (fun K11 hK11 => ?_)
      refine tr_seq (fun K12 hK12 => ?_)
      -- region 8: law.go:78
      refine tr_region ?_
      refine tr_val (ov_move rfl rfl) rfl rfl rfl ?_
      refine tr_val (ov_len rfl rfl Try.underlying29 rfl) rfl rfl rfl ?_
      refine tr_val (ov_move rfl rfl) rfl rfl rfl ?_
      refine tr_nil (hK12 _ _ (TrC.keep [83, 82, 81, 15, 78, 14, 24, 10, 0, 1, 2, 3, 4] ?_))
      show TrC _ _ _ _ [(83, _), (82, _), (81, _), (15, _), (78, _), (14, _), (24, _), (10, _), (0, _), (1, _), (2, _), (3, _), (4, _)] _ _
      refine tr_block ?_
      refine tr_loop_ (X := Int × List Bool) [82, 81, 78, 14, 24, 0, 1, 2, 3, 4] (fun ⟨i, B⟩ => [(83, .int .i64 i), (15, .slice A2 B.length c2)]) (fun ⟨i, B⟩ w' => 0 ≤ i ∧ i ≤ M.length ∧ B.length = k.toNat ∧ (∀ q, q ∈ M.drop i.toNat → gt B q = false) ∧ SH w noBlocks [vec A2 c2 4 1 encBo B, vec A1 c1 3 1 encI64 M, dice d g (((L.drop (belowK n)).drop k1).drop k2)] w') (fun ⟨i, B⟩ => (M.length - i).toNat) (⟨0, List.replicate k.toNat false⟩) (Sub.cons rfl (Sub.cons rfl (Sub.cons rfl (Sub.cons rfl (Sub.cons rfl (Sub.cons rfl (Sub.cons rfl (Sub.cons rfl (Sub.cons rfl (Sub.cons rfl (Sub.cons rfl (Sub.cons rfl Sub.nil)))))))))))) (⟨by omega, by omega, by simp, fun q hq => (by have hq' := irange_mem (hP.mem_iff.mp (List.mem_of_mem_drop hq)); exact gt_replicate hq'.1 hq'.2), H⟩) ?_
      rintro ⟨i, B⟩ w8 ⟨hi0, hi1, hBl, hf, H⟩ K13 hK13
      show TrC _ _ _ _ [(83, _), (15, _), (82, _), (81, _), (78, _), (14, _), (24, _), (0, _), (1, _), (2, _), (3, _), (4, _)] _ _
      refine tr_seq (fun K14 hK14 => ?_)
      -- region 9: law.go:78
      refine tr_region ?_
      refine tr_val (ov_lss rfl rfl rfl) rfl rfl rfl ?_
      refine tr_nil (hK14 _ _ (TrC.keep [84, 83, 15, 82, 81, 78, 14, 24, 0, 1, 2, 3, 4] ?_))
      show TrC _ _ _ _ [(84, _), (83, _), (15, _), (82, _), (81, _), (78, _), (14, _), (24, _), (0, _), (1, _), (2, _), (3, _), (4, _)] _ _
      refine tr_seq (fun K15 hK15 => ?_)
      first | refine tr_cond rfl (fun c84 => ?_) (fun c84 => ?_) | refine tr_condb rfl (fun c84 => ?_) (fun c84 => ?_)
      · skip
        refine tr_skip (hK15 _ _ (TrC.keep [84, 83, 15, 82, 81, 78, 14, 24, 0, 1, 2, 3, 4] ?_))
        show TrC _ _ _ _ [(84, _), (83, _), (15, _), (82, _), (81, _), (78, _), (14, _), (24, _), (0, _), (1, _), (2, _), (3, _), (4, _)] _ _
        refine tr_seq (fun K16 hK16 => ?_)
        refine tr_block ?_
        refine tr_seq (fun K17 hK17 => ?_)
        -- region 10: law.go:78
        refine tr_region ?_
        refine tr_val (ov_indexAddr rfl Try.underlying29 (Try.sizeOf3 _) rfl rfl (by omega) (by omega) (rd_some (vec_rd H.get1 lenI64 (by decide)) (by omega) (by omega))) rfl rfl rfl ?_
        refine tr_val (ld_I64 (vec_rd H.get1 lenI64 (by decide)) rfl (Try.isAgg3 _) rfl (by omega) (by omega)) rfl rfl rfl ?_
        refine tr_val (ov_assign rfl rfl) rfl rfl rfl ?_
        refine tr_nil (hK17 _ _ (TrC.keep [17, 84, 83, 15, 82, 81, 78, 14, 24, 0, 1, 2, 3, 4] ?_))
        show TrC _ _ _ _ [(17, _), (84, _), (83, _), (15, _), (82, _), (81, _), (78, _), (14, _), (24, _), (0, _), (1, _), (2, _), (3, _), (4, _)] _ _
        refine tr_seq (fun K18 hK18 => ?_)
        refine tr_seq (fun K19 hK19 => ?_)
        -- region 11: law.go:79
        obtain ⟨hm1, hm2, hm3, hm4⟩ := met_step hP hk.1 hi0 (by omega) hBl hf
        refine tr_region ?_
        refine tr_val (ov_move rfl rfl) rfl rfl rfl ?_
        refine tr_val (ov_lss rfl rfl rfl) rfl rfl rfl ?_
        refine tr_val (ov_move rfl rfl) rfl rfl rfl ?_
        first | refine tr_split (t := 89) rfl (fun s89 => ?_) (fun s89 => ?_) | refine tr_splitb (t := 89) rfl (fun s89 => ?_) (fun s89 => ?_)
        · exfalso; omega
        · skip
          refine tr_val (ov_move rfl rfl) rfl rfl rfl ?_
          refine tr_val (ov_move rfl rfl) rfl rfl rfl ?_
          refine tr_val (ov_len rfl rfl Try.underlying31 rfl) rfl rfl rfl ?_
          refine tr_val (ov_geq rfl rfl rfl) rfl rfl rfl ?_
          refine tr_val (ov_pick_f (va := undef) rfl rfl rfl rfl) rfl rfl rfl ?_
          refine tr_val (ov_move rfl rfl) rfl rfl rfl ?_
          first | refine tr_split (t := 95) rfl (fun s95 => ?_) (fun s95 => ?_) | refine tr_splitb (t := 95) rfl (fun s95 => ?_) (fun s95 => ?_)
          · exfalso; omega
          · skip
            refine tr_val (ov_move rfl rfl) rfl rfl rfl ?_
            refine tr_val (ov_move rfl rfl) rfl rfl rfl ?_
            refine tr_val (ov_indexAddr rfl Try.underlying31 (Try.sizeOf4 _) rfl rfl (by omega) (by omega) (rd_some (vec_rd H.get0 lenBo (by decide)) (by omega) (by omega))) rfl rfl rfl ?_
            refine tr_val (ld_Bo (vec_rd H.get0 lenBo (by decide)) rfl (Try.isAgg4 _) rfl (by omega) (by omega)) rfl rfl rfl ?_
            refine tr_val (ov_pick_f (va := undef) rfl rfl rfl rfl) rfl rfl rfl ?_
            refine tr_nil (hK19 _ _ (TrC.keep [100, 17, 84, 83, 15, 82, 81, 78, 14, 24, 0, 1, 2, 3, 4] ?_))
            show TrC _ _ _ _ [(100, _), (17, _), (84, _), (83, _), (15, _), (82, _), (81, _), (78, _), (14, _), (24, _), (0, _), (1, _), (2, _), (3, _), (4, _)] _ _
            refine tr_cond_f rfl (hm3) ?_
            refine tr_skip (hK18 _ _ (TrC.keep [100, 17, 84, 83, 15, 82, 81, 78, 14, 24, 0, 1, 2, 3, 4] ?_))
            show TrC _ _ _ _ [(100, _), (17, _), (84, _), (83, _), (15, _), (82, _), (81, _), (78, _), (14, _), (24, _), (0, _), (1, _), (2, _), (3, _), (4, _)] _ _
            -- region 13: law.go:82
            refine tr_region ?_
            refine tr_val (ov_move rfl rfl) rfl rfl rfl ?_
            refine tr_val (ov_move rfl rfl) rfl rfl rfl ?_
            refine tr_val (ov_indexAddr rfl Try.underlying31 (Try.sizeOf4 _) rfl rfl (by omega) (by omega) (rd_some (vec_rd H.get0 lenBo (by decide)) (by omega) (by omega))) rfl rfl rfl ?_
            refine tr_store_vec (i := gt M i) (k := 0) true [.bool true] H.get0 lenBo rfl rfl rfl rfl (by omega) (by omega) (Try.sizeOf4 _) (Nat.le_refl _) (List.cons_ne_nil _ _) rfl rfl rfl rfl rfl ?_
            intro w9 U; have H := H.upd0 U; clear U
            refine tr_nil (hK16 _ _ (TrC.keep [100, 17, 84, 83, 15, 82, 81, 78, 14, 24, 0, 1, 2, 3, 4] ?_))
            show TrC _ _ _ _ [(100, _), (17, _), (84, _), (83, _), (15, _), (82, _), (81, _), (78, _), (14, _), (24, _), (0, _), (1, _), (2, _), (3, _), (4, _)] _ _
            -- region 14: law.go:78
            refine tr_region ?_
            refine tr_val (ov_add rfl rfl rfl (w64 (by omega))) rfl rfl rfl ?_
            refine tr_val (ov_move rfl rfl) rfl rfl rfl ?_
            skip
            exact tr_nil (hK13 (⟨i + 1, B.set (gt M i).toNat true⟩) _ _ (⟨by omega, by omega, by simpa using hBl, hm4, H⟩) (by first | omega | (dsimp only; omega)) (Sub.cons rfl (Sub.consE rfl (by simp) (Sub.cons rfl (Sub.cons rfl (Sub.cons rfl (Sub.cons rfl (Sub.cons rfl (Sub.cons rfl (Sub.cons rfl (Sub.cons rfl (Sub.cons rfl (Sub.cons rfl Sub.nil)))))))))))))
      · skip
        refine tr_exit (hK11 _ _ (TrC.keep [84, 83, 15, 82, 81, 78, 14, 24, 0, 1, 2, 3, 4] ?_))
        show TrC _ _ _ _ [(84, _), (83, _), (15, _), (82, _), (81, _), (78, _), (14, _), (24, _), (0, _), (1, _), (2, _), (3, _), (4, _)] _ _
        refine tr_seq (fun K20 hK20 => ?_)
        -- region 15: law.go:84
        refine tr_region ?_
        refine tr_val (ov_move rfl rfl) rfl rfl rfl ?_
        refine tr_val (ov_len rfl rfl Try.underlying29 rfl) rfl rfl rfl ?_
        refine tr_val (ov_move rfl rfl) rfl rfl rfl ?_
        refine tr_val (ov_len rfl rfl Try.underlying31 rfl) rfl rfl rfl ?_
        refine tr_val (ov_eql rfl rfl rfl) rfl rfl rfl ?_
        refine tr_val (ov_assign rfl rfl) rfl rfl rfl ?_
        refine tr_nil (hK20 _ _ (TrC.keep [10, 84, 83, 15, 82, 81, 78, 14, 24, 0, 1, 2, 3, 4] ?_))
        show TrC _ _ _ _ [(10, _), (84, _), (83, _), (15, _), (82, _), (81, _), (78, _), (14, _), (24, _), (0, _), (1, _), (2, _), (3, _), (4, _)] _ _
        refine tr_ret (post_ret1 (.inr rfl) rfl rfl ?_)
        exact ⟨congrArg Value.bool (eqT (by omega)).symm, H.drop0.drop0.drop0⟩

end Go.Proofs.Ytnmglobfdlnenaa
