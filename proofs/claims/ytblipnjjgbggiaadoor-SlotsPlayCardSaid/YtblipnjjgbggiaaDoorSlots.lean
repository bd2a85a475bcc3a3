/- Contracts of Ring.Next, of curfewref11 and of the laws. Conditions: none. -/
import Derived.Test.YtblipnjjgbggiaaDoorTzP
import Derived.Test.YtblipnjjgbggiaaDoorRingC
import Derived.Test.YtblipnjjgbggiaaDoorRef11
namespace Go.Proofs.YtblipnjjgbggiaaDoor
open Go Go.RowKit
set_option linter.unusedVariables false
set_option linter.unusedSimpArgs false

/-! math/bits.TrailingZeros64 -/
set_option maxRecDepth 20000 in
theorem Tz_c (x : Nat) (w : World) (hx : x < 2 ^ 64) (h0 : x ≠ 0) (hT : tabR.holds w) : Does Tryd.prog 33 #[.int .u64 x] w (fun v w' => v = .int .i64 (Go.Lib.ctz 64 x : Nat) ∧ SH w noBlocks [] w') := by
  obtain ⟨hlow, hk⟩ := Go.Lib.lowest_bit 64 x h0 hx
  obtain ⟨hi, htab⟩ := Go.Lib.deBruijn64_at _ hk
  refine does_enter1 Tryd.func33 rfl Tryd.ntmps33 rfl ?_
  have H := SH.start w noBlocks
  refine tr_seq (fun K1 hK1 => ?_)
  -- region 0: bits.go:90
  refine tr_region ?_
  refine tr_val (ov_assign rfl rfl) rfl rfl rfl ?_
  refine tr_nil (hK1 _ _ (TrC.keep [2, 0] ?_))
  show TrC _ _ _ _ [(2, _), (0, _)] _ _
  refine tr_seq (fun K2 hK2 => ?_)
  refine tr_seq (fun K3 hK3 => ?_)
  -- region 1: bits.go:91
  refine tr_region ?_
  refine tr_val (ov_move rfl rfl) rfl rfl rfl ?_
  refine tr_val (ov_eql rfl rfl rfl) rfl rfl rfl ?_
  refine tr_nil (hK3 _ _ (TrC.keep [4, 2, 0] ?_))
  show TrC _ _ _ _ [(4, _), (2, _), (0, _)] _ _
  first | refine tr_cond rfl (fun c4 => ?_) (fun c4 => ?_) | refine tr_condb rfl (fun c4 => ?_) (fun c4 => ?_)
  · exact absurd c4 (by omega)
  · skip
    refine tr_skip (hK2 _ _ (TrC.keep [4, 2, 0] ?_))
    show TrC _ _ _ _ [(4, _), (2, _), (0, _)] _ _
    refine tr_seq (fun K4 hK4 => ?_)
    -- region 3: bits.go:105
    have e58 : (2 ^ Go.Lib.ctz 64 x * 285870213051353865 % 18446744073709551616) >>> 58 = 2 ^ Go.Lib.ctz 64 x * 285870213051353865 % 18446744073709551616 / 288230376151711744 := Nat.shiftRight_eq_div_pow _ 58
    rw [← e58] at hi htab
    generalize hq : (2 ^ Go.Lib.ctz 64 x * 285870213051353865 % 18446744073709551616) >>> 58 = q at hi htab
    refine tr_region ?_
    refine tr_val (ov_move rfl rfl) rfl rfl rfl ?_
    refine tr_val (ov_move rfl rfl) rfl rfl rfl ?_
    refine tr_val (ov_neg rfl rfl (neg_u64 x h0 hx)) rfl rfl rfl ?_
    refine tr_val (ov_and rfl rfl rfl (low_u64 x h0 hx)) rfl rfl rfl ?_
    refine tr_val (ov_mul rfl rfl rfl (mul_u64 _ 285870213051353865)) rfl rfl rfl ?_
    refine tr_val (ov_shr rfl rfl rfl (by omega) (shr_u64 _ 58 (by decide))) rfl rfl rfl ?_
    refine tr_val (ov_indexAddrA (m := 64) (a := ⟨0, 0, none⟩) rfl Tryd.underlying84 (Tryd.sizeOf5 _) rfl (by rw [← hq]; rfl) (Int.natCast_nonneg q) (by omega)) rfl rfl rfl ?_
    refine tr_val (ov_load1 rfl (Tryd.isAgg5 _) rfl (by rw [add_lit, Nat.zero_add, Int.toNat_natCast, Nat.mul_one]; exact H.res0 hT q hi)) rfl rfl rfl ?_
    refine tr_val (ov_conv rfl Tryd.underlying5 Tryd.underlying3 rfl (w64 (by omega))) rfl rfl rfl ?_
    refine tr_val (ov_assign rfl rfl) rfl rfl rfl ?_
    refine tr_nil (hK4 _ _ (TrC.keep [2, 4, 0] ?_))
    show TrC _ _ _ _ [(2, _), (4, _), (0, _)] _ _
    refine tr_ret (post_ret1 (.inr rfl) rfl rfl ?_)
    rw [htab]; exact ⟨rfl, H⟩

/-! math/bits.RotateLeft64 -/
set_option maxRecDepth 20000 in
theorem Rot_c (u : Nat) (a : Int) (w : World) (hu : u < 2 ^ 64) (h0 : 0 ≤ a) (h1 : a < 64) : Does Tryd.prog 34 #[.int .u64 u, .int .i64 (-a)] w (fun v w' => v = .int .u64 (rotN u a.toNat : Nat) ∧ SH w noBlocks [] w') := by
  refine does_enter2 Tryd.func34 rfl Tryd.ntmps34 rfl ?_
  have H := SH.start w noBlocks
  refine tr_seq (fun K1 hK1 => ?_)
  -- region 0: bits.go:217
  refine tr_region ?_
  refine tr_val (ov_assign rfl rfl) rfl rfl rfl ?_
  refine tr_nil (hK1 _ _ (TrC.keep [4, 0, 1] ?_))
  show TrC _ _ _ _ [(4, _), (0, _), (1, _)] _ _
  refine tr_seq (fun K2 hK2 => ?_)
  -- region 1: bits.go:219
  refine tr_region ?_
  refine tr_val (ov_move rfl rfl) rfl rfl rfl ?_
  refine tr_val (ov_conv rfl Tryd.underlying3 Tryd.underlying85 rfl rfl) rfl rfl rfl ?_
  refine tr_val (ov_and rfl rfl rfl (rot_s a h0 h1)) rfl rfl rfl ?_
  refine tr_val (ov_assign rfl rfl) rfl rfl rfl ?_
  refine tr_nil (hK2 _ _ (TrC.keep [5, 4, 0] ?_))
  show TrC _ _ _ _ [(5, _), (4, _), (0, _)] _ _
  refine tr_seq (fun K3 hK3 => ?_)
  -- region 2: bits.go:220
  refine tr_region ?_
  refine tr_val (ov_move rfl rfl) rfl rfl rfl ?_
  refine tr_val (ov_move rfl rfl) rfl rfl rfl ?_
  refine tr_val (ov_shl rfl rfl rfl (by omega) (shl_u64 u _ (by omega))) rfl rfl rfl ?_
  refine tr_val (ov_move rfl rfl) rfl rfl rfl ?_
  refine tr_val (ov_move rfl rfl) rfl rfl rfl ?_
  refine tr_val (ov_sub rfl rfl rfl (show IntKind.u64.wrap _ = ((64 - (64 - a.toNat) % 64 : Nat) : Int) from (wu64 (by omega)).trans (by omega))) rfl rfl rfl ?_
  refine tr_val (ov_shr rfl rfl rfl (by omega) (shr_u64 u _ (by omega))) rfl rfl rfl ?_
  refine tr_val (ov_or rfl rfl rfl (rot_or u a.toNat hu)) rfl rfl rfl ?_
  refine tr_val (ov_assign rfl rfl) rfl rfl rfl ?_
  refine tr_nil (hK3 _ _ (TrC.keep [4] ?_))
  show TrC _ _ _ _ [(4, _)] _ _
  refine tr_ret (post_ret1 (.inr rfl) rfl rfl ?_)
  exact ⟨rfl, H⟩

/-! (*curfew/slots.Ring).Next -/
set_option maxRecDepth 20000 in
theorem ringNext_c (d : Nat) (W : List RThing) (L : List Res) (w : World) (hL : RingL 54 27 d W L) (hO : (pack L).holds w) (f : Int) (hT : tabR.holds w) : Does Tryd.prog 22 #[.pointer (some ⟨d, 0, none⟩), .int .i64 f] w (fun v w' => v = nextT W f ∧ SH w noBlocks [] w') := by
  have hL0 := hL
  obtain ⟨m, Z, u, E, ck, hR, rfl⟩ := hL
  have hlen := hR.len
  have hwf := hR.wf
  have hb : (blk d 54 (cellsR Z u m)).holds w := pack_hold hO (by simp [ringL])
  have hm : (mapS m E ck).holds w := pack_hold hO (by simp [ringL])
  have hsl : ∀ k : Int, 0 ≤ k → k ≤ 63 → (vecZ 27 (gt Z k)).holds w := fun k h0 h1 => pack_hold hO (by simp only [ringL, List.mem_cons]; exact .inr (.inr (List.mem_map.mpr ⟨_, gt_mem h0 (by omega), rfl⟩)))
  have hul := usedN_lt hwf
  refine does_enter2 Tryd.func22 rfl Tryd.ntmps22 rfl ?_
  have H := SH.start w noBlocks
  refine tr_seq (fun K1 hK1 => ?_)
  -- region 0: slots.go:142
  refine tr_region ?_
  refine tr_val (ov_assign rfl rfl) rfl rfl rfl ?_
  refine tr_val (ov_assign rfl rfl) rfl rfl rfl ?_
  refine tr_val (ov_assign rfl rfl) rfl rfl rfl ?_
  refine tr_nil (hK1 _ _ (TrC.keep [6, 5, 4, 0, 1] ?_))
  show TrC _ _ _ _ [(6, _), (5, _), (4, _), (0, _), (1, _)] _ _
  refine tr_seq (fun K2 hK2 => ?_)
  refine tr_seq (fun K3 hK3 => ?_)
  -- region 1: slots.go:143
  refine tr_region ?_
  refine tr_val (ov_move rfl rfl) rfl rfl rfl ?_
  refine tr_call (ringUsed_c d W _ _ hL0 (H.res0 hO)) rfl rfl rfl Tryd.call16 rfl rfl rfl ?_
  rintro _ w1 ⟨rfl, HC⟩
  have H := H.call0n HC
  refine tr_val (ov_eql rfl rfl rfl) rfl rfl rfl ?_
  refine tr_nil (hK3 _ _ (TrC.keep [10, 6, 5, 4, 0, 1] ?_))
  show TrC _ _ _ _ [(10, _), (6, _), (5, _), (4, _), (0, _), (1, _)] _ _
  first | refine tr_cond rfl (fun c10 => ?_) (fun c10 => ?_) | refine tr_condb rfl (fun c10 => ?_) (fun c10 => ?_)
  · skip
    refine tr_seq (fun K4 hK4 => ?_)
    -- region 2: slots.go:144
    refine tr_region ?_
    refine tr_val (ov_assign rfl rfl) rfl rfl rfl ?_
    refine tr_val (ov_assign rfl rfl) rfl rfl rfl ?_
    refine tr_val (ov_assign rfl rfl) rfl rfl rfl ?_
    refine tr_nil (hK4 _ _ (TrC.keep [6, 5, 4, 10, 0, 1] ?_))
    show TrC _ _ _ _ [(6, _), (5, _), (4, _), (10, _), (0, _), (1, _)] _ _
    refine tr_ret (post_ret3 (.inr rfl) rfl rfl rfl rfl ?_)
    have hn := nextO_nil (f := f) hwf (by omega)
    unfold nextT; rw [hn]; exact ⟨rfl, H⟩
  · skip
    refine tr_skip (hK2 _ _ (TrC.keep [10, 6, 5, 4, 0, 1] ?_))
    show TrC _ _ _ _ [(10, _), (6, _), (5, _), (4, _), (0, _), (1, _)] _ _
    refine tr_seq (fun K5 hK5 => ?_)
    -- region 3: slots.go:146
    refine tr_region ?_
    refine tr_val (ov_move rfl rfl) rfl rfl rfl ?_
    refine tr_val (ov_and rfl rfl rfl (and63 f)) rfl rfl rfl ?_
    refine tr_val (ov_assign rfl rfl) rfl rfl rfl ?_
    refine tr_nil (hK5 _ _ (TrC.keep [7, 10, 6, 5, 4, 0] ?_))
    show TrC _ _ _ _ [(7, _), (10, _), (6, _), (5, _), (4, _), (0, _)] _ _
    refine tr_seq (fun K6 hK6 => ?_)
    -- region 4: slots.go:147
    have hu := hR.used
    subst hu
    obtain ⟨hnx, hne⟩ := nextO_prog (f := f) hwf (by omega : usedN W ≠ 0)
    have hct := ctz_bits hne (rotN_lt _ _ hul)
    refine tr_region ?_
    refine tr_val (ov_move rfl rfl) rfl rfl rfl ?_
    refine tr_val (ov_nilCheck rfl rfl) rfl rfl rfl ?_
    refine tr_val (ov_fieldAddr rfl Tryd.underlying54 rfl (Tryd.sizeOf25 _) (by decide) rfl) rfl rfl rfl ?_
    refine tr_val (ov_load_blk (H.res0 hb) rfl (Tryd.isAgg25 _) rfl rfl (cellsR_used hlen)) rfl rfl rfl ?_
    refine tr_val (ov_move rfl rfl) rfl rfl rfl ?_
    refine tr_val (ov_neg rfl rfl (show IntKind.i64.wrap (0 - f % 64) = -(f % 64) from (w64 (by omega)).trans (by omega))) rfl rfl rfl ?_
    refine tr_call (Rot_c (usedN W) (f % 64) _ hul (by omega) (by omega)) rfl rfl rfl Tryd.call34 rfl rfl rfl ?_
    rintro _ w2 ⟨rfl, HC⟩
    have H := H.call0n HC
    refine tr_call (Tz_c _ _ (rotN_lt _ _ hul) hne (H.res0 hT)) rfl rfl rfl Tryd.call33 rfl rfl rfl ?_
    rintro _ w3 ⟨rfl, HC⟩
    have H := H.call0n HC
    refine tr_val (ov_assign rfl rfl) rfl rfl rfl ?_
    refine tr_nil (hK6 _ _ (TrC.keep [5, 7, 10, 6, 4, 0] ?_))
    show TrC _ _ _ _ [(5, _), (7, _), (10, _), (6, _), (4, _), (0, _)] _ _
    refine tr_seq (fun K7 hK7 => ?_)
    -- region 5: slots.go:148
    refine tr_region ?_
    refine tr_val (ov_move rfl rfl) rfl rfl rfl ?_
    refine tr_val (ov_move rfl rfl) rfl rfl rfl ?_
    refine tr_val (ov_add rfl rfl rfl (w64 (by omega))) rfl rfl rfl ?_
    refine tr_val (ov_rem rfl rfl rfl (by omega) (tmod64_pos (by omega))) rfl rfl rfl ?_
    refine tr_val (ov_move rfl rfl) rfl rfl rfl ?_
    refine tr_val (ov_assign rfl rfl) rfl rfl rfl ?_
    refine tr_val (ov_assign rfl rfl) rfl rfl rfl ?_
    refine tr_val (ov_assign rfl rfl) rfl rfl rfl ?_
    refine tr_nil (hK7 _ _ (TrC.keep [6, 5, 4, 7, 10, 0] ?_))
    show TrC _ _ _ _ [(6, _), (5, _), (4, _), (7, _), (10, _), (0, _)] _ _
    refine tr_ret (post_ret3 (.inr rfl) rfl rfl rfl rfl ?_)
    unfold nextT; rw [hnx]; exact ⟨rfl, H⟩

/-! (*curfew/slots.Ring).Next -/
set_option maxRecDepth 20000 in
theorem ringNext_n (p : Option Addr) (w : World) (hp : NoRing w p) (f : Int) : Does Tryd.prog 22 #[.pointer p, .int .i64 f] w (fun v w' => v = .tuple #[.int .i64 0, .int .i64 0, .bool false] ∧ SH w noBlocks [] w') := by
  refine does_enter2 Tryd.func22 rfl Tryd.ntmps22 rfl ?_
  have H := SH.start w noBlocks
  refine tr_seq (fun K1 hK1 => ?_)
  -- region 0: slots.go:142
  refine tr_region ?_
  refine tr_val (ov_assign rfl rfl) rfl rfl rfl ?_
  refine tr_val (ov_assign rfl rfl) rfl rfl rfl ?_
  refine tr_val (ov_assign rfl rfl) rfl rfl rfl ?_
  refine tr_nil (hK1 _ _ (TrC.keep [6, 5, 4, 0, 1] ?_))
  show TrC _ _ _ _ [(6, _), (5, _), (4, _), (0, _), (1, _)] _ _
  refine tr_seq (fun K2 hK2 => ?_)
  refine tr_seq (fun K3 hK3 => ?_)
  -- region 1: slots.go:143
  refine tr_region ?_
  refine tr_val (ov_move rfl rfl) rfl rfl rfl ?_
  refine tr_call (ringUsed_n p _ hp) rfl rfl rfl Tryd.call16 rfl rfl rfl ?_
  rintro _ w1 ⟨rfl, HC⟩
  have H := H.call0n HC
  refine tr_val (ov_eql rfl rfl rfl) rfl rfl rfl ?_
  refine tr_nil (hK3 _ _ (TrC.keep [10, 6, 5, 4, 0, 1] ?_))
  show TrC _ _ _ _ [(10, _), (6, _), (5, _), (4, _), (0, _), (1, _)] _ _
  first | refine tr_cond rfl (fun c10 => ?_) (fun c10 => ?_) | refine tr_condb rfl (fun c10 => ?_) (fun c10 => ?_)
  · skip
    refine tr_seq (fun K4 hK4 => ?_)
    -- region 2: slots.go:144
    refine tr_region ?_
    refine tr_val (ov_assign rfl rfl) rfl rfl rfl ?_
    refine tr_val (ov_assign rfl rfl) rfl rfl rfl ?_
    refine tr_val (ov_assign rfl rfl) rfl rfl rfl ?_
    refine tr_nil (hK4 _ _ (TrC.keep [6, 5, 4, 10, 0, 1] ?_))
    show TrC _ _ _ _ [(6, _), (5, _), (4, _), (10, _), (0, _), (1, _)] _ _
    refine tr_ret (post_ret3 (.inr rfl) rfl rfl rfl rfl ?_)
    exact ⟨rfl, H⟩
  · exact absurd rfl c10

/-! curfew/curfewref11.Put -/
set_option maxRecDepth 20000 in
theorem PutR_c (B : Option Addr) (c : Nat) (W : List RThing) (w : World) (hR : Rd w B 4 (W.map encRThing)) (hW : W.length ≤ 65536) (s : Int) (t : Thing) : Does Tryd.prog 30 #[.slice B W.length c, .int .i64 s, .agg #[.int .u64 (toR t 0).id, .int .u64 (toR t 0).gen, .int .i64 (toR t 0).due, .int .i64 (toR t 0).slot]] w (fun v w' => ∃ A' c', v = .tuple #[.slice A' (putV W s t).1.length c', .int .i64 (putV W s t).2] ∧ ((A' = B ∧ c' = c ∧ (putV W s t).1 = W ∧ SH w noBlocks [] w') ∨ SH w noBlocks [vec A' c' 29 4 encRThing (putV W s t).1] w')) := by
  refine does_enter3 Tryd.func30 rfl Tryd.ntmps30 rfl ?_
  have H := SH.start w noBlocks
  refine tr_seq (fun K1 hK1 => ?_)
  -- region 0: ref.go:46
  refine tr_region ?_
  refine tr_box H rfl rfl rfl rfl rfl rfl ?_
  intro b1 w1 hb1 H
  refine tr_val (ov_assign rfl rfl) rfl rfl rfl ?_
  refine tr_val (ov_assign rfl rfl) rfl rfl rfl ?_
  refine tr_nil (hK1 _ _ (TrC.keep [7, 6, 5, 0, 1] ?_))
  show TrC _ _ _ _ [(7, _), (6, _), (5, _), (0, _), (1, _)] _ _
  refine tr_seq (fun K2 hK2 => ?_)
  refine tr_seq (fun K3 hK3 => ?_)
  -- region 1: ref.go:47
  refine tr_region ?_
  refine tr_val (ov_move rfl rfl) rfl rfl rfl ?_
  refine tr_val (ov_lss rfl rfl rfl) rfl rfl rfl ?_
  refine tr_val (ov_move rfl rfl) rfl rfl rfl ?_
  first | refine tr_split (t := 10) rfl (fun s10 => ?_) (fun s10 => ?_) | refine tr_splitb (t := 10) rfl (fun s10 => ?_) (fun s10 => ?_)
  · skip
    refine tr_pass rfl rfl rfl ?_
    refine tr_pass rfl rfl rfl ?_
    refine tr_val (ov_pick (vb := undef) rfl rfl rfl rfl) rfl rfl rfl ?_
    refine tr_nil (hK3 _ _ (TrC.keep [13, 7, 6, 5, 0, 1] ?_))
    show TrC _ _ _ _ [(13, _), (7, _), (6, _), (5, _), (0, _), (1, _)] _ _
    refine tr_cond_t rfl rfl ?_
    refine tr_seq (fun K4 hK4 => ?_)
    -- region 2: ref.go:48
    refine tr_region ?_
    refine tr_val (ov_move rfl rfl) rfl rfl rfl ?_
    refine tr_val (ov_assign rfl rfl) rfl rfl rfl ?_
    refine tr_val (ov_assign rfl rfl) rfl rfl rfl ?_
    refine tr_nil (hK4 _ _ (TrC.keep [7, 6, 13, 5, 0, 1] ?_))
    show TrC _ _ _ _ [(7, _), (6, _), (13, _), (5, _), (0, _), (1, _)] _ _
    refine tr_ret (post_ret2 (.inr rfl) rfl rfl rfl ?_)
    unfold putV; rw [if_pos (by omega)]; exact ⟨B, c, rfl, .inl ⟨rfl, rfl, rfl, H.drop0⟩⟩
  · skip
    refine tr_val (ov_move rfl rfl) rfl rfl rfl ?_
    refine tr_val (ov_gtr rfl rfl rfl) rfl rfl rfl ?_
    refine tr_val (ov_pick_f (va := undef) rfl rfl rfl rfl) rfl rfl rfl ?_
    refine tr_nil (hK3 _ _ (TrC.keep [13, 7, 6, 5, 0, 1] ?_))
    show TrC _ _ _ _ [(13, _), (7, _), (6, _), (5, _), (0, _), (1, _)] _ _
    first | refine tr_cond rfl (fun c13 => ?_) (fun c13 => ?_) | refine tr_condb rfl (fun c13 => ?_) (fun c13 => ?_)
    · skip
      refine tr_seq (fun K5 hK5 => ?_)
      -- region 2: ref.go:48
      refine tr_region ?_
      refine tr_val (ov_move rfl rfl) rfl rfl rfl ?_
      refine tr_val (ov_assign rfl rfl) rfl rfl rfl ?_
      refine tr_val (ov_assign rfl rfl) rfl rfl rfl ?_
      refine tr_nil (hK5 _ _ (TrC.keep [7, 6, 13, 5, 0, 1] ?_))
      show TrC _ _ _ _ [(7, _), (6, _), (13, _), (5, _), (0, _), (1, _)] _ _
      refine tr_ret (post_ret2 (.inr rfl) rfl rfl rfl ?_)
      unfold putV; rw [if_pos (by omega)]; exact ⟨B, c, rfl, .inl ⟨rfl, rfl, rfl, H.drop0⟩⟩
    · skip
      refine tr_skip (hK2 _ _ (TrC.keep [13, 7, 6, 5, 0, 1] ?_))
      show TrC _ _ _ _ [(13, _), (7, _), (6, _), (5, _), (0, _), (1, _)] _ _
      refine tr_seq (fun K6 hK6 => ?_)
      refine tr_seq (fun K7 hK7 => ?_)
      -- region 3: ref.go:50
      refine tr_region ?_
      refine tr_val (ov_move rfl rfl) rfl rfl rfl ?_
      refine tr_val (ov_fieldAddr rfl Tryd.underlying29 rfl (Tryd.sizeOf25 _) (by decide) rfl) rfl rfl rfl ?_
      first | refine tr_val (ov_load_blk H.get0 rfl (Tryd.isAgg25 _) rfl rfl rfl) rfl rfl rfl ?_ | refine tr_val (ov_load_blk H.get1 rfl (Tryd.isAgg25 _) rfl rfl rfl) rfl rfl rfl ?_ | refine tr_val (ov_load_blk H.get2 rfl (Tryd.isAgg25 _) rfl rfl rfl) rfl rfl rfl ?_ | refine tr_val (ov_load_blk H.get3 rfl (Tryd.isAgg25 _) rfl rfl rfl) rfl rfl rfl ?_ | refine tr_val (ov_load_blk H.get4 rfl (Tryd.isAgg25 _) rfl rfl rfl) rfl rfl rfl ?_ | refine tr_val (ov_load_blk H.get5 rfl (Tryd.isAgg25 _) rfl rfl rfl) rfl rfl rfl ?_
      refine tr_call (FindR_c B c W _ (H.rd0 hR) hW t.id) rfl rfl rfl Tryd.call27 rfl rfl rfl ?_
      rintro _ w2 ⟨rfl, HC⟩
      have H := H.call0n HC
      refine tr_val (ov_geq rfl rfl rfl) rfl rfl rfl ?_
      refine tr_nil (hK7 _ _ (TrC.keep [19, 13, 7, 6, 5, 0, 1] ?_))
      show TrC _ _ _ _ [(19, _), (13, _), (7, _), (6, _), (5, _), (0, _), (1, _)] _ _
      first | refine tr_cond rfl (fun c19 => ?_) (fun c19 => ?_) | refine tr_condb rfl (fun c19 => ?_) (fun c19 => ?_)
      · skip
        refine tr_seq (fun K8 hK8 => ?_)
        -- region 4: ref.go:51
        refine tr_region ?_
        refine tr_val (ov_move rfl rfl) rfl rfl rfl ?_
        refine tr_val (ov_assign rfl rfl) rfl rfl rfl ?_
        refine tr_val (ov_assign rfl rfl) rfl rfl rfl ?_
        refine tr_nil (hK8 _ _ (TrC.keep [7, 6, 19, 13, 5, 0, 1] ?_))
        show TrC _ _ _ _ [(7, _), (6, _), (19, _), (13, _), (5, _), (0, _), (1, _)] _ _
        refine tr_ret (post_ret2 (.inr rfl) rfl rfl rfl ?_)
        obtain ⟨r, hr⟩ := idxR_pos (W := W) (id := t.id) (by omega)
        unfold putV; rw [if_neg (by omega), if_pos (by rw [hr]; rfl)]; exact ⟨B, c, rfl, .inl ⟨rfl, rfl, rfl, H.drop0⟩⟩
      · skip
        refine tr_skip (hK6 _ _ (TrC.keep [19, 13, 7, 6, 5, 0, 1] ?_))
        show TrC _ _ _ _ [(19, _), (13, _), (7, _), (6, _), (5, _), (0, _), (1, _)] _ _
        refine tr_seq (fun K9 hK9 => ?_)
        -- region 5: ref.go:53
        have hfn := idxR_neg (W := W) (id := t.id) (by omega)
        refine tr_region ?_
        refine tr_val (ov_move rfl rfl) rfl rfl rfl ?_
        refine tr_val (ov_fieldAddr rfl Tryd.underlying29 rfl (Tryd.sizeOf3 _) (by decide) rfl) rfl rfl rfl ?_
        first | (refine tr_store H.get0 rfl (Tryd.sizeOf3 _) rfl rfl rfl rfl rfl rfl rfl ?_; intro w3 U; have H := H.upd0 U; clear U) | (refine tr_store H.get1 rfl (Tryd.sizeOf3 _) rfl rfl rfl rfl rfl rfl rfl ?_; intro w3 U; have H := H.upd1 U; clear U) | (refine tr_store H.get2 rfl (Tryd.sizeOf3 _) rfl rfl rfl rfl rfl rfl rfl ?_; intro w3 U; have H := H.upd2 U; clear U) | (refine tr_store H.get3 rfl (Tryd.sizeOf3 _) rfl rfl rfl rfl rfl rfl rfl ?_; intro w3 U; have H := H.upd3 U; clear U) | (refine tr_store H.get4 rfl (Tryd.sizeOf3 _) rfl rfl rfl rfl rfl rfl rfl ?_; intro w3 U; have H := H.upd4 U; clear U) | (refine tr_store H.get5 rfl (Tryd.sizeOf3 _) rfl rfl rfl rfl rfl rfl rfl ?_; intro w3 U; have H := H.upd5 U; clear U)
        try simp only [List.set_cons_zero, List.set_cons_succ, Nat.zero_add] at H
        refine tr_nil (hK9 _ _ (TrC.keep [19, 13, 7, 6, 5, 0, 1] ?_))
        show TrC _ _ _ _ [(19, _), (13, _), (7, _), (6, _), (5, _), (0, _), (1, _)] _ _
        refine tr_seq (fun K10 hK10 => ?_)
        -- region 6: ref.go:54
        refine tr_held (fun w' => (blk b1 29 [.int .u64 (toR t s).id, .int .u64 (toR t s).gen, .int .i64 (toR t s).due, .int .i64 (toR t s).slot]).holds w') mixed rfl H ?_
        intro w4 H
        refine th_take 1 rfl (by kernel_rfl) (by kernel_rfl) (by kernel_rfl) ((by first | exact H.get0 | exact H.get1 | exact H.get2)) (fun _ hS => ov_move rfl rfl) rfl rfl rfl ?_
        first | refine th_take 3 rfl (by kernel_rfl) (by kernel_rfl) (by kernel_rfl) ((by first | exact H.get0 | exact H.get1 | exact H.get2)) (fun _ hS => ov_load_blkN hS rfl (Tryd.isAgg29 _) (Tryd.sizeOf29 _) rfl rfl rfl) rfl rfl rfl ?_ | refine th_take 3 rfl (by kernel_rfl) (by kernel_rfl) (by kernel_rfl) ((by first | exact H.get0 | exact H.get1 | exact H.get2)) (fun _ hS => ov_load_blkN hS.1 rfl (Tryd.isAgg29 _) (Tryd.sizeOf29 _) rfl rfl rfl) rfl rfl rfl ?_ | refine th_take 3 rfl (by kernel_rfl) (by kernel_rfl) (by kernel_rfl) ((by first | exact H.get0 | exact H.get1 | exact H.get2)) (fun _ hS => ov_load_blkN hS.2.1 rfl (Tryd.isAgg29 _) (Tryd.sizeOf29 _) rfl rfl rfl) rfl rfl rfl ?_ | refine th_take 3 rfl (by kernel_rfl) (by kernel_rfl) (by kernel_rfl) ((by first | exact H.get0 | exact H.get1 | exact H.get2)) (fun _ hS => ov_load_blkN hS.2.2.1 rfl (Tryd.isAgg29 _) (Tryd.sizeOf29 _) rfl rfl rfl) rfl rfl rfl ?_ | refine th_take 3 rfl (by kernel_rfl) (by kernel_rfl) (by kernel_rfl) ((by first | exact H.get0 | exact H.get1 | exact H.get2)) (fun _ hS => ov_load_blkN hS.2.2.2.1 rfl (Tryd.isAgg29 _) (Tryd.sizeOf29 _) rfl rfl rfl) rfl rfl rfl ?_ | refine th_take 3 rfl (by kernel_rfl) (by kernel_rfl) (by kernel_rfl) ((by first | exact H.get0 | exact H.get1 | exact H.get2)) (fun _ hS => ov_load_blkN hS.2.2.2.2.1 rfl (Tryd.isAgg29 _) (Tryd.sizeOf29 _) rfl rfl rfl) rfl rfl rfl ?_ | refine th_take 3 rfl (by kernel_rfl) (by kernel_rfl) (by kernel_rfl) ((by first | exact H.get0 | exact H.get1 | exact H.get2)) (fun _ hS => ov_load_blkN hS.2 rfl (Tryd.isAgg29 _) (Tryd.sizeOf29 _) rfl rfl rfl) rfl rfl rfl ?_ | refine th_take 3 rfl (by kernel_rfl) (by kernel_rfl) (by kernel_rfl) ((by first | exact H.get0 | exact H.get1 | exact H.get2)) (fun _ hS => ov_load_blkN hS.2.2 rfl (Tryd.isAgg29 _) (Tryd.sizeOf29 _) rfl rfl rfl) rfl rfl rfl ?_ | refine th_take 3 rfl (by kernel_rfl) (by kernel_rfl) (by kernel_rfl) ((by first | exact H.get0 | exact H.get1 | exact H.get2)) (fun _ hS => ov_load_blkN hS.2.2.2 rfl (Tryd.isAgg29 _) (Tryd.sizeOf29 _) rfl rfl rfl) rfl rfl rfl ?_ | refine th_take 3 rfl (by kernel_rfl) (by kernel_rfl) (by kernel_rfl) ((by first | exact H.get0 | exact H.get1 | exact H.get2)) (fun _ hS => ov_load_blkN hS.2.2.2.2 rfl (Tryd.isAgg29 _) (Tryd.sizeOf29 _) rfl rfl rfl) rfl rfl rfl ?_
        refine th_two 0 4 (by kernel_rfl) ?_ ?_
        · skip
          refine tw_buildSlice0 H rfl rfl Tryd.underlying24 info29 rfl rfl rfl ?_
          intro b6 w16 hb6 H
          have H := H.upd0 (upd_vec_of_blk (L := ([] : List RThing)) (enc := encRThing) (sz := 4) H.get0 rfl lenRThing (by simp))
          refine ⟨(by first | exact H.get1 | exact H.get2), ?_⟩
          refine th_two 2 4 (by kernel_rfl) ?_ ?_
          · skip
            first | (refine tw_append (M := W) (L := ([] : List RThing)) H.get0 (H.rd0 hR) rfl rfl rfl rfl Tryd.underlying24 info29 rfl rfl (show Tryd.t29.bytes = 32 from rfl) rfl (by decide) lenRThing oneRThing (by rw [List.length_nil]; omega) (by rw [List.length_nil]; unfold maxLen; omega) rfl rfl rfl ?_; intro A2 c2 w20 U; have H := H.upd0 U; clear U; rw [List.nil_append] at H ⊢; refine ⟨(by first | exact H.get1 | exact H.get2), ?_⟩) | (refine tw_append (M := W) (L := ([] : List RThing)) H.get1 (H.rd0 hR) rfl rfl rfl rfl Tryd.underlying24 info29 rfl rfl (show Tryd.t29.bytes = 32 from rfl) rfl (by decide) lenRThing oneRThing (by rw [List.length_nil]; omega) (by rw [List.length_nil]; unfold maxLen; omega) rfl rfl rfl ?_; intro A2 c2 w20 U; have H := H.upd1 U; clear U; rw [List.nil_append] at H ⊢; refine ⟨(by first | exact H.get1 | exact H.get2), ?_⟩)
            refine th_one 4 (by kernel_rfl) ?_
            refine tw_buildSlice H rfl rfl Tryd.underlying24 info29 rfl (fun ρ k => bs1 k rfl) (by decide) (by decide) (fill_RThing_1 _ _ _ _) rfl rfl rfl ?_
            intro b7 w7 hb7 H
            refine ⟨(by first | exact H.get1 | exact H.get2), ?_⟩
            refine th_one 5 (by kernel_rfl) ?_
            first | (refine tw_append (M := [toR t s]) (L := W) H.get1 (rd_blk [toR t s] H.get0 rfl lenRThing) rfl rfl rfl rfl Tryd.underlying24 info29 rfl rfl (show Tryd.t29.bytes = 32 from rfl) rfl (by decide) lenRThing oneRThing (by rw [List.length_singleton]; omega) (by rw [List.length_singleton]; unfold maxLen; omega) rfl rfl rfl ?_; intro A3 c3 w30 U; have H := H.upd1 U; clear U; refine ⟨H.get2, ?_⟩) | (refine tw_append (M := [toR t s]) (L := W) H.get0 (rd_blk [toR t s] H.get1 rfl lenRThing) rfl rfl rfl rfl Tryd.underlying24 info29 rfl rfl (show Tryd.t29.bytes = 32 from rfl) rfl (by decide) lenRThing oneRThing (by rw [List.length_singleton]; omega) (by rw [List.length_singleton]; unfold maxLen; omega) rfl rfl rfl ?_; intro A3 c3 w30 U; have H := H.upd0 U; clear U; refine ⟨H.get2, ?_⟩)
            refine th_take 6 rfl (by kernel_rfl) (by kernel_rfl) (by kernel_rfl) ((by first | exact H.get0 | exact H.get1 | exact H.get2)) (fun _ hS => ov_assign rfl rfl) rfl rfl rfl ?_
            refine th_take 7 rfl (by kernel_rfl) (by kernel_rfl) (by kernel_rfl) ((by first | exact H.get0 | exact H.get1 | exact H.get2)) (fun _ hS => ov_assign rfl rfl) rfl rfl rfl ?_
            refine th_done (by kernel_rfl) ?_
            refine hK10 _ _ (TrC.keep [7, 6, 19, 13, 5, 0, 1] ?_)
            show TrC _ _ _ _ [(7, _), (6, _), (19, _), (13, _), (5, _), (0, _), (1, _)] _ _
            refine tr_ret (post_ret2 (.inr rfl) rfl rfl rfl ?_)
            unfold putV; rw [if_neg (by omega), if_neg (by rw [hfn]; decide)]; exact ⟨_, _, rfl, .inr (by first | exact H.drop0.drop1 | exact H.drop1.drop1)⟩
          · skip
            refine tw_buildSlice H rfl rfl Tryd.underlying24 info29 rfl (fun ρ k => bs1 k rfl) (by decide) (by decide) (fill_RThing_1 _ _ _ _) rfl rfl rfl ?_
            intro b7 w7 hb7 H
            refine ⟨(by first | exact H.get1 | exact H.get2), ?_⟩
            refine th_one 2 (by kernel_rfl) ?_
            first | (refine tw_append (M := W) (L := ([] : List RThing)) H.get0 (H.rd0 hR) rfl rfl rfl rfl Tryd.underlying24 info29 rfl rfl (show Tryd.t29.bytes = 32 from rfl) rfl (by decide) lenRThing oneRThing (by rw [List.length_nil]; omega) (by rw [List.length_nil]; unfold maxLen; omega) rfl rfl rfl ?_; intro A2 c2 w20 U; have H := H.upd0 U; clear U; rw [List.nil_append] at H ⊢; refine ⟨(by first | exact H.get1 | exact H.get2), ?_⟩) | (refine tw_append (M := W) (L := ([] : List RThing)) H.get1 (H.rd0 hR) rfl rfl rfl rfl Tryd.underlying24 info29 rfl rfl (show Tryd.t29.bytes = 32 from rfl) rfl (by decide) lenRThing oneRThing (by rw [List.length_nil]; omega) (by rw [List.length_nil]; unfold maxLen; omega) rfl rfl rfl ?_; intro A2 c2 w20 U; have H := H.upd1 U; clear U; rw [List.nil_append] at H ⊢; refine ⟨(by first | exact H.get1 | exact H.get2), ?_⟩)
            refine th_one 5 (by kernel_rfl) ?_
            first | (refine tw_append (M := [toR t s]) (L := W) H.get1 (rd_blk [toR t s] H.get0 rfl lenRThing) rfl rfl rfl rfl Tryd.underlying24 info29 rfl rfl (show Tryd.t29.bytes = 32 from rfl) rfl (by decide) lenRThing oneRThing (by rw [List.length_singleton]; omega) (by rw [List.length_singleton]; unfold maxLen; omega) rfl rfl rfl ?_; intro A3 c3 w30 U; have H := H.upd1 U; clear U; refine ⟨H.get2, ?_⟩) | (refine tw_append (M := [toR t s]) (L := W) H.get0 (rd_blk [toR t s] H.get1 rfl lenRThing) rfl rfl rfl rfl Tryd.underlying24 info29 rfl rfl (show Tryd.t29.bytes = 32 from rfl) rfl (by decide) lenRThing oneRThing (by rw [List.length_singleton]; omega) (by rw [List.length_singleton]; unfold maxLen; omega) rfl rfl rfl ?_; intro A3 c3 w30 U; have H := H.upd0 U; clear U; refine ⟨H.get2, ?_⟩)
            refine th_take 6 rfl (by kernel_rfl) (by kernel_rfl) (by kernel_rfl) ((by first | exact H.get0 | exact H.get1 | exact H.get2)) (fun _ hS => ov_assign rfl rfl) rfl rfl rfl ?_
            refine th_take 7 rfl (by kernel_rfl) (by kernel_rfl) (by kernel_rfl) ((by first | exact H.get0 | exact H.get1 | exact H.get2)) (fun _ hS => ov_assign rfl rfl) rfl rfl rfl ?_
            refine th_done (by kernel_rfl) ?_
            refine hK10 _ _ (TrC.keep [7, 6, 19, 13, 5, 0, 1] ?_)
            show TrC _ _ _ _ [(7, _), (6, _), (19, _), (13, _), (5, _), (0, _), (1, _)] _ _
            refine tr_ret (post_ret2 (.inr rfl) rfl rfl rfl ?_)
            unfold putV; rw [if_neg (by omega), if_neg (by rw [hfn]; decide)]; exact ⟨_, _, rfl, .inr (by first | exact H.drop0.drop1 | exact H.drop1.drop1)⟩
        · skip
          refine tw_buildSlice H rfl rfl Tryd.underlying24 info29 rfl (fun ρ k => bs1 k rfl) (by decide) (by decide) (fill_RThing_1 _ _ _ _) rfl rfl rfl ?_
          intro b7 w7 hb7 H
          refine ⟨(by first | exact H.get1 | exact H.get2), ?_⟩
          refine th_one 0 (by kernel_rfl) ?_
          refine tw_buildSlice0 H rfl rfl Tryd.underlying24 info29 rfl rfl rfl ?_
          intro b6 w16 hb6 H
          have H := H.upd0 (upd_vec_of_blk (L := ([] : List RThing)) (enc := encRThing) (sz := 4) H.get0 rfl lenRThing (by simp))
          refine ⟨(by first | exact H.get1 | exact H.get2), ?_⟩
          refine th_one 2 (by kernel_rfl) ?_
          first | (refine tw_append (M := W) (L := ([] : List RThing)) H.get0 (H.rd0 hR) rfl rfl rfl rfl Tryd.underlying24 info29 rfl rfl (show Tryd.t29.bytes = 32 from rfl) rfl (by decide) lenRThing oneRThing (by rw [List.length_nil]; omega) (by rw [List.length_nil]; unfold maxLen; omega) rfl rfl rfl ?_; intro A2 c2 w20 U; have H := H.upd0 U; clear U; rw [List.nil_append] at H ⊢; refine ⟨(by first | exact H.get1 | exact H.get2), ?_⟩) | (refine tw_append (M := W) (L := ([] : List RThing)) H.get1 (H.rd0 hR) rfl rfl rfl rfl Tryd.underlying24 info29 rfl rfl (show Tryd.t29.bytes = 32 from rfl) rfl (by decide) lenRThing oneRThing (by rw [List.length_nil]; omega) (by rw [List.length_nil]; unfold maxLen; omega) rfl rfl rfl ?_; intro A2 c2 w20 U; have H := H.upd1 U; clear U; rw [List.nil_append] at H ⊢; refine ⟨(by first | exact H.get1 | exact H.get2), ?_⟩)
          refine th_one 5 (by kernel_rfl) ?_
          first | (refine tw_append (M := [toR t s]) (L := W) H.get1 (rd_blk [toR t s] H.get0 rfl lenRThing) rfl rfl rfl rfl Tryd.underlying24 info29 rfl rfl (show Tryd.t29.bytes = 32 from rfl) rfl (by decide) lenRThing oneRThing (by rw [List.length_singleton]; omega) (by rw [List.length_singleton]; unfold maxLen; omega) rfl rfl rfl ?_; intro A3 c3 w30 U; have H := H.upd1 U; clear U; refine ⟨H.get2, ?_⟩) | (refine tw_append (M := [toR t s]) (L := W) H.get0 (rd_blk [toR t s] H.get1 rfl lenRThing) rfl rfl rfl rfl Tryd.underlying24 info29 rfl rfl (show Tryd.t29.bytes = 32 from rfl) rfl (by decide) lenRThing oneRThing (by rw [List.length_singleton]; omega) (by rw [List.length_singleton]; unfold maxLen; omega) rfl rfl rfl ?_; intro A3 c3 w30 U; have H := H.upd0 U; clear U; refine ⟨H.get2, ?_⟩)
          refine th_take 6 rfl (by kernel_rfl) (by kernel_rfl) (by kernel_rfl) ((by first | exact H.get0 | exact H.get1 | exact H.get2)) (fun _ hS => ov_assign rfl rfl) rfl rfl rfl ?_
          refine th_take 7 rfl (by kernel_rfl) (by kernel_rfl) (by kernel_rfl) ((by first | exact H.get0 | exact H.get1 | exact H.get2)) (fun _ hS => ov_assign rfl rfl) rfl rfl rfl ?_
          refine th_done (by kernel_rfl) ?_
          refine hK10 _ _ (TrC.keep [7, 6, 19, 13, 5, 0, 1] ?_)
          show TrC _ _ _ _ [(7, _), (6, _), (19, _), (13, _), (5, _), (0, _), (1, _)] _ _
          refine tr_ret (post_ret2 (.inr rfl) rfl rfl rfl ?_)
          unfold putV; rw [if_neg (by omega), if_neg (by rw [hfn]; decide)]; exact ⟨_, _, rfl, .inr (by first | exact H.drop0.drop1 | exact H.drop1.drop1)⟩

theorem take_in {W : List RThing} {s i : Int} (h0 : 0 ≤ i) (h1 : i < W.length) (h : (gt W i).slot = s) : takeR (W.take (i + 1).toNat) s = takeR (W.take i.toNat) s ++ [gt W i] ∧ leftR (W.take (i + 1).toNat) s = leftR (W.take i.toNat) s := by
  unfold takeR leftR
  rw [filter_snoc _ h0 h1, filter_snoc _ h0 h1, if_pos (by simpa using h), if_neg (by simpa using h)]; simp
theorem take_out {W : List RThing} {s i : Int} (h0 : 0 ≤ i) (h1 : i < W.length) (h : ¬ (gt W i).slot = s) : takeR (W.take (i + 1).toNat) s = takeR (W.take i.toNat) s ∧ leftR (W.take (i + 1).toNat) s = leftR (W.take i.toNat) s ++ [gt W i] := by
  unfold takeR leftR
  rw [filter_snoc _ h0 h1, filter_snoc _ h0 h1, if_neg (by simpa using h), if_pos (by simpa using h)]; simp

/-! curfew/curfewref11.Take -/
set_option maxRecDepth 20000 in
theorem TakeR_c (B : Option Addr) (c : Nat) (W : List RThing) (w : World) (hR : Rd w B 4 (W.map encRThing)) (hW : W.length ≤ 65536) (s : Int) : Does Tryd.prog 18 #[.slice B W.length c, .int .i64 s] w (fun v w' => ∃ A1 c1 A2 c2, v = .tuple #[.slice A1 (leftR W s).length c1, .slice A2 (sortR (takeR W s)).length c2] ∧ SH w noBlocks [vec A2 c2 29 4 encRThing (sortR (takeR W s)), vec A1 c1 29 4 encRThing (leftR W s)] w') := by
  refine does_enter2 Tryd.func18 rfl Tryd.ntmps18 rfl ?_
  have H := SH.start w noBlocks
  refine tr_seq (fun K1 hK1 => ?_)
  -- region 0: ref.go:58
  refine tr_region ?_
  refine tr_val (ov_assign rfl rfl) rfl rfl rfl ?_
  refine tr_val (ov_assign rfl rfl) rfl rfl rfl ?_
  refine tr_nil (hK1 _ _ (TrC.keep [5, 4, 0, 1] ?_))
  show TrC _ _ _ _ [(5, _), (4, _), (0, _), (1, _)] _ _
  refine tr_seq (fun K2 hK2 => ?_)
  -- region 1: ref.go:59
  have H := H.addNil 29 4 encRThing
  have H := H.addNil 29 4 encRThing
  refine tr_region ?_
  refine tr_val (ov_assign rfl rfl) rfl rfl rfl ?_
  refine tr_val (ov_assign rfl rfl) rfl rfl rfl ?_
  refine tr_nil (hK2 _ _ (TrC.keep [7, 6, 5, 4, 0, 1] ?_))
  show TrC _ _ _ _ [(7, _), (6, _), (5, _), (4, _), (0, _), (1, _)] _ _
  refine tr_seq (fun K3 hK3 => ?_)
  refine tr_seq (fun K4 hK4 => ?_)
  -- region 2: ref.go:60
  refine tr_region ?_
  refine tr_val (ov_assign rfl rfl) rfl rfl rfl ?_
  refine tr_nil (hK4 _ _ (TrC.keep [8, 7, 6, 5, 4, 0, 1] ?_))
  show TrC _ _ _ _ [(8, _), (7, _), (6, _), (5, _), (4, _), (0, _), (1, _)] _ _
  refine tr_block ?_
  refine tr_loop_ (X := Int × Option Addr × Nat × Option Addr × Nat) [5, 4, 0, 1] (fun ⟨i, A1, c1, A2, c2⟩ => [(8, .int .i64 i), (6, .slice A1 (leftR (W.take i.toNat) s).length c1), (7, .slice A2 (takeR (W.take i.toNat) s).length c2)]) (fun ⟨i, A1, c1, A2, c2⟩ w' => 0 ≤ i ∧ i ≤ W.length ∧ SH w noBlocks [vec A2 c2 29 4 encRThing (takeR (W.take i.toNat) s), vec A1 c1 29 4 encRThing (leftR (W.take i.toNat) s)] w') (fun ⟨i, A1, c1, A2, c2⟩ => (W.length - i).toNat) (⟨0, none, 0, none, 0⟩) (Sub.cons rfl (Sub.cons rfl (Sub.cons rfl (Sub.cons rfl (Sub.cons rfl (Sub.cons rfl (Sub.cons rfl Sub.nil))))))) (⟨by omega, by omega, H⟩) ?_
  rintro ⟨i, A1, c1, A2, c2⟩ w1 ⟨hi0, hi1, H⟩ K5 hK5
  show TrC _ _ _ _ [(8, _), (6, _), (7, _), (5, _), (4, _), (0, _), (1, _)] _ _
  refine tr_seq (fun K6 hK6 => ?_)
  refine tr_seq (fun K7 hK7 => ?_)
  -- region 3: ref.go:60
  refine tr_region ?_
  refine tr_val (ov_move rfl rfl) rfl rfl rfl ?_
  refine tr_val (ov_move rfl rfl) rfl rfl rfl ?_
  refine tr_val (ov_len rfl rfl Tryd.underlying24 rfl) rfl rfl rfl ?_
  refine tr_val (ov_lss rfl rfl rfl) rfl rfl rfl ?_
  refine tr_nil (hK7 _ _ (TrC.keep [12, 8, 6, 7, 5, 4, 0, 1] ?_))
  show TrC _ _ _ _ [(12, _), (8, _), (6, _), (7, _), (5, _), (4, _), (0, _), (1, _)] _ _
  first | refine tr_cond rfl (fun c12 => ?_) (fun c12 => ?_) | refine tr_condb rfl (fun c12 => ?_) (fun c12 => ?_)
  · skip
    refine tr_skip (hK6 _ _ (TrC.keep [12, 8, 6, 7, 5, 4, 0, 1] ?_))
    show TrC _ _ _ _ [(12, _), (8, _), (6, _), (7, _), (5, _), (4, _), (0, _), (1, _)] _ _
    refine tr_seq (fun K8 hK8 => ?_)
    refine tr_block ?_
    refine tr_seq (fun K9 hK9 => ?_)
    -- region 5: ref.go:61
    have hle1 := takeR_le (W.take i.toNat) s
    have hle2 := leftR_le (W.take i.toNat) s
    have hl0 := takeN (L := W) hi0 (by omega)
    refine tr_region ?_
    refine tr_val (ov_move rfl rfl) rfl rfl rfl ?_
    refine tr_val (ov_move rfl rfl) rfl rfl rfl ?_
    refine tr_val (ov_indexAddrR (H.rd0 hR) rfl Tryd.underlying24 (Tryd.sizeOf29 _) rfl rfl (by omega) (by omega)) rfl rfl rfl ?_
    refine tr_val (ov_fieldAddr rfl Tryd.underlying29 rfl (Tryd.sizeOf3 _) (by decide) rfl) rfl rfl rfl ?_
    refine tr_val (ld_RThing_3 (H.rd0 hR) rfl (Tryd.isAgg3 _) rfl (by omega) (by omega)) rfl rfl rfl ?_
    refine tr_val (ov_move rfl rfl) rfl rfl rfl ?_
    refine tr_val (ov_eql rfl rfl rfl) rfl rfl rfl ?_
    refine tr_nil (hK9 _ _ (TrC.keep [21, 12, 8, 6, 7, 5, 4, 0, 1] ?_))
    show TrC _ _ _ _ [(21, _), (12, _), (8, _), (6, _), (7, _), (5, _), (4, _), (0, _), (1, _)] _ _
    first | refine tr_cond rfl (fun c21 => ?_) (fun c21 => ?_) | refine tr_condb rfl (fun c21 => ?_) (fun c21 => ?_)
    · skip
      -- region 6: ref.go:62
      refine tr_region ?_
      refine tr_val (ov_move rfl rfl) rfl rfl rfl ?_
      refine tr_val (ov_move rfl rfl) rfl rfl rfl ?_
      refine tr_val (ov_move rfl rfl) rfl rfl rfl ?_
      refine tr_val (ov_indexAddrR (H.rd0 hR) rfl Tryd.underlying24 (Tryd.sizeOf29 _) rfl rfl (by omega) (by omega)) rfl rfl rfl ?_
      refine tr_val (ld_RThing (H.rd0 hR) rfl (Tryd.isAgg29 _) (Tryd.sizeOf29 _) rfl (by omega) (by omega)) rfl rfl rfl ?_
      refine tr_buildSlice H rfl Tryd.underlying24 info29 rfl (fun ρ k => bs1 k rfl) (by decide) (by decide) (fill_RThing_1 _ _ _ _) rfl rfl rfl ?_
      intro b6 wb60 hb6 H
      refine tr_append (M := [gt W i]) H.get1 (rd_blk [gt W i] H.get0 rfl lenRThing) rfl rfl rfl Tryd.underlying24 info29 rfl rfl (show Tryd.t29.bytes = 32 from rfl) rfl (by decide) lenRThing oneRThing (by simp; omega) (by simp [maxLen]; omega) rfl rfl rfl ?_
      intro A3 c3 w30 U; have H := H.upd1 U; clear U
      have H := H.drop0
      refine tr_val (ov_assign rfl rfl) rfl rfl rfl ?_
      refine tr_nil (hK8 _ _ (TrC.keep [7, 21, 12, 8, 6, 5, 4, 0, 1] ?_))
      show TrC _ _ _ _ [(7, _), (21, _), (12, _), (8, _), (6, _), (5, _), (4, _), (0, _), (1, _)] _ _
      -- region 4: ref.go:60
      refine tr_region ?_
      refine tr_val (ov_move rfl rfl) rfl rfl rfl ?_
      refine tr_val (ov_add rfl rfl rfl (w64 (by omega))) rfl rfl rfl ?_
      refine tr_val (ov_assign rfl rfl) rfl rfl rfl ?_
      have hin := take_in hi0 (by omega) c21
      exact tr_nil (hK5 (⟨i + 1, A1, c1, A3, c3⟩) _ _ (⟨by omega, by omega, by rw [hin.1, hin.2]; exact H⟩) (by first | omega | (dsimp only; omega)) (Sub.cons rfl (Sub.consE rfl (by rw [hin.2]) (Sub.consE rfl (by rw [hin.1]) (Sub.cons rfl (Sub.cons rfl (Sub.cons rfl (Sub.cons rfl Sub.nil))))))))
    · skip
      -- region 7: ref.go:64
      refine tr_region ?_
      refine tr_val (ov_move rfl rfl) rfl rfl rfl ?_
      refine tr_val (ov_move rfl rfl) rfl rfl rfl ?_
      refine tr_val (ov_move rfl rfl) rfl rfl rfl ?_
      refine tr_val (ov_indexAddrR (H.rd0 hR) rfl Tryd.underlying24 (Tryd.sizeOf29 _) rfl rfl (by omega) (by omega)) rfl rfl rfl ?_
      refine tr_val (ld_RThing (H.rd0 hR) rfl (Tryd.isAgg29 _) (Tryd.sizeOf29 _) rfl (by omega) (by omega)) rfl rfl rfl ?_
      refine tr_buildSlice H rfl Tryd.underlying24 info29 rfl (fun ρ k => bs1 k rfl) (by decide) (by decide) (fill_RThing_1 _ _ _ _) rfl rfl rfl ?_
      intro b7 wb70 hb7 H
      refine tr_append (M := [gt W i]) H.get2 (rd_blk [gt W i] H.get0 rfl lenRThing) rfl rfl rfl Tryd.underlying24 info29 rfl rfl (show Tryd.t29.bytes = 32 from rfl) rfl (by decide) lenRThing oneRThing (by simp; omega) (by simp [maxLen]; omega) rfl rfl rfl ?_
      intro A3 c3 w30 U; have H := H.upd2 U; clear U
      have H := H.drop0
      refine tr_val (ov_assign rfl rfl) rfl rfl rfl ?_
      refine tr_nil (hK8 _ _ (TrC.keep [6, 21, 12, 8, 7, 5, 4, 0, 1] ?_))
      show TrC _ _ _ _ [(6, _), (21, _), (12, _), (8, _), (7, _), (5, _), (4, _), (0, _), (1, _)] _ _
      -- region 4: ref.go:60
      refine tr_region ?_
      refine tr_val (ov_move rfl rfl) rfl rfl rfl ?_
      refine tr_val (ov_add rfl rfl rfl (w64 (by omega))) rfl rfl rfl ?_
      refine tr_val (ov_assign rfl rfl) rfl rfl rfl ?_
      have hin := take_out hi0 (by omega) c21
      exact tr_nil (hK5 (⟨i + 1, A3, c3, A2, c2⟩) _ _ (⟨by omega, by omega, by rw [hin.1, hin.2]; exact H⟩) (by first | omega | (dsimp only; omega)) (Sub.cons rfl (Sub.consE rfl (by rw [hin.2]) (Sub.consE rfl (by rw [hin.1]) (Sub.cons rfl (Sub.cons rfl (Sub.cons rfl (Sub.cons rfl Sub.nil))))))))
  · skip
    refine tr_exit (hK3 _ _ (TrC.keep [12, 8, 6, 7, 5, 4, 0, 1] ?_))
    show TrC _ _ _ _ [(12, _), (8, _), (6, _), (7, _), (5, _), (4, _), (0, _), (1, _)] _ _
    refine tr_seq (fun K10 hK10 => ?_)
    -- region 8: ref.go:67
    have eW : W.take i.toNat = W := List.take_of_length_le (by omega)
    rw [eW] at H ⊢
    refine tr_region ?_
    refine tr_val (ov_move rfl rfl) rfl rfl rfl ?_
    refine tr_val (ov_move rfl rfl) rfl rfl rfl ?_
    refine tr_call (SortedR_c A2 c2 (takeR W s) _ (vec_rd H.get0 lenRThing (by decide)) (by have := takeR_le W s; omega)) rfl rfl rfl Tryd.call12 rfl rfl rfl ?_
    rintro _ w2 ⟨A5, c5, rfl, HC⟩
    have H := H.call0r HC
    refine tr_val (ov_assign rfl rfl) rfl rfl rfl ?_
    refine tr_val (ov_assign rfl rfl) rfl rfl rfl ?_
    refine tr_nil (hK10 _ _ (TrC.keep [5, 4, 12, 8, 6, 7, 0, 1] ?_))
    show TrC _ _ _ _ [(5, _), (4, _), (12, _), (8, _), (6, _), (7, _), (0, _), (1, _)] _ _
    refine tr_ret (post_ret2 (.inr rfl) rfl rfl rfl ?_)
    exact ⟨A1, c1, A5, c5, rfl, H.drop1⟩

theorem hasS_snoc {W : List RThing} {k i : Int} (h0 : 0 ≤ i) (h1 : i < W.length) (h : hasS (W.take i.toNat) k = false) (hn : ¬ (gt W i).slot = k) : hasS (W.take (i + 1).toNat) k = false := by
  unfold hasS at h ⊢
  rw [take_gt h0 h1, List.any_append, h]; simp [hn]

/-! curfew/curfewref11.Next -/
set_option maxRecDepth 20000 in
theorem NextR_c (B : Option Addr) (c : Nat) (W : List RThing) (w : World) (hR : Rd w B 4 (W.map encRThing)) (hW : W.length ≤ 65536) (f : Int) : Does Tryd.prog 29 #[.slice B W.length c, .int .i64 f] w (fun v w' => v = nextT W f ∧ SH w noBlocks [] w') := by
  refine does_enter2 Tryd.func29 rfl Tryd.ntmps29 rfl ?_
  have H := SH.start w noBlocks
  refine tr_seq (fun K1 hK1 => ?_)
  -- region 0: ref.go:71
  refine tr_region ?_
  refine tr_val (ov_assign rfl rfl) rfl rfl rfl ?_
  refine tr_val (ov_assign rfl rfl) rfl rfl rfl ?_
  refine tr_val (ov_assign rfl rfl) rfl rfl rfl ?_
  refine tr_nil (hK1 _ _ (TrC.keep [6, 5, 4, 0, 1] ?_))
  show TrC _ _ _ _ [(6, _), (5, _), (4, _), (0, _), (1, _)] _ _
  refine tr_seq (fun K2 hK2 => ?_)
  -- region 1: ref.go:72
  refine tr_region ?_
  refine tr_val (ov_move rfl rfl) rfl rfl rfl ?_
  refine tr_val (ov_rem rfl rfl rfl (by omega) rfl) rfl rfl rfl ?_
  refine tr_val (ov_assign rfl rfl) rfl rfl rfl ?_
  refine tr_nil (hK2 _ _ (TrC.keep [7, 6, 5, 4, 0] ?_))
  show TrC _ _ _ _ [(7, _), (6, _), (5, _), (4, _), (0, _)] _ _
  refine tr_seq_cut_ [6, 5, 4, 0] [(7, .int .i64 (f % 64))] (fun w' => SH w noBlocks [] w') (fun K3 hK3 => ?_) (fun w1 H => ?_)
  · skip
    refine tr_seq (fun K4 hK4 => ?_)
    -- region 2: ref.go:73
    refine tr_region ?_
    refine tr_val (ov_move rfl rfl) rfl rfl rfl ?_
    refine tr_val (ov_lss rfl rfl rfl) rfl rfl rfl ?_
    refine tr_nil (hK4 _ _ (TrC.keep [13, 7, 6, 5, 4, 0] ?_))
    show TrC _ _ _ _ [(13, _), (7, _), (6, _), (5, _), (4, _), (0, _)] _ _
    first | refine tr_cond rfl (fun c13 => ?_) (fun c13 => ?_) | refine tr_condb rfl (fun c13 => ?_) (fun c13 => ?_)
    · skip
      -- region 3: ref.go:74
      have ht64 := tmod64 f
      refine tr_region ?_
      refine tr_val (ov_move rfl rfl) rfl rfl rfl ?_
      refine tr_val (ov_add rfl rfl rfl (w64 (by omega))) rfl rfl rfl ?_
      refine tr_val (ov_assign rfl rfl) rfl rfl rfl ?_
      exact tr_nil (hK3 _ _ (Sub.consE rfl (congrArg (Value.int .i64) (by have := tmod64 f; omega)) (Sub.cons rfl (Sub.cons rfl (Sub.cons rfl (Sub.cons rfl Sub.nil))))) (H))
    · skip
      exact tr_skip (hK3 _ _ (Sub.consE rfl (congrArg (Value.int .i64) (by have := tmod64 f; omega)) (Sub.cons rfl (Sub.cons rfl (Sub.cons rfl (Sub.cons rfl Sub.nil))))) (H))
  · skip
    show TrC _ _ _ _ [(7, _), (6, _), (5, _), (4, _), (0, _)] _ _
    refine tr_seq (fun K5 hK5 => ?_)
    refine tr_seq (fun K6 hK6 => ?_)
    -- region 4: ref.go:76
    refine tr_region ?_
    refine tr_val (ov_assign rfl rfl) rfl rfl rfl ?_
    refine tr_nil (hK6 _ _ (TrC.keep [8, 7, 6, 5, 4, 0] ?_))
    show TrC _ _ _ _ [(8, _), (7, _), (6, _), (5, _), (4, _), (0, _)] _ _
    refine tr_block ?_
    refine tr_loop_ (X := Int) [7, 0] (fun s => [(8, .int .i64 s)]) (fun s w' => 0 ≤ s ∧ s ≤ 64 ∧ nxt (fun q : Nat => hasS W ((f % 64 + q) % 64)) s.toNat (64 - s).toNat = nextO W f ∧ SH w noBlocks [] w') (fun s => (64 - s).toNat) (0) (Sub.cons rfl (Sub.cons rfl (Sub.cons rfl Sub.nil))) (⟨by omega, by omega, rfl, H⟩) ?_
    rintro s w2 ⟨hs0, hs1, hx, H⟩ K7 hK7
    show TrC _ _ _ _ [(8, _), (7, _), (0, _)] _ _
    refine tr_seq (fun K8 hK8 => ?_)
    refine tr_seq (fun K9 hK9 => ?_)
    -- region 5: ref.go:76
    refine tr_region ?_
    refine tr_val (ov_move rfl rfl) rfl rfl rfl ?_
    refine tr_val (ov_lss rfl rfl rfl) rfl rfl rfl ?_
    refine tr_nil (hK9 _ _ (TrC.keep [17, 8, 7, 0] ?_))
    show TrC _ _ _ _ [(17, _), (8, _), (7, _), (0, _)] _ _
    first | refine tr_cond rfl (fun c17 => ?_) (fun c17 => ?_) | refine tr_condb rfl (fun c17 => ?_) (fun c17 => ?_)
    · skip
      refine tr_skip (hK8 _ _ (TrC.keep [17, 8, 7, 0] ?_))
      show TrC _ _ _ _ [(17, _), (8, _), (7, _), (0, _)] _ _
      refine tr_seq (fun K10 hK10 => ?_)
      refine tr_block ?_
      refine tr_seq (fun K11 hK11 => ?_)
      -- region 7: ref.go:77
      refine tr_region ?_
      refine tr_val (ov_assign rfl rfl) rfl rfl rfl ?_
      refine tr_nil (hK11 _ _ (TrC.keep [9, 17, 8, 7, 0] ?_))
      show TrC _ _ _ _ [(9, _), (17, _), (8, _), (7, _), (0, _)] _ _
      refine tr_block ?_
      refine tr_loop_ (X := Int) [17, 8, 7, 0] (fun i => [(9, .int .i64 i)]) (fun i w' => 0 ≤ i ∧ i ≤ W.length ∧ hasS (W.take i.toNat) ((f % 64 + s) % 64) = false ∧ SH w noBlocks [] w') (fun i => (W.length - i).toNat) (0) (Sub.cons rfl (Sub.cons rfl (Sub.cons rfl (Sub.cons rfl (Sub.cons rfl Sub.nil))))) (⟨by omega, by omega, rfl, H⟩) ?_
      rintro i w3 ⟨hi0, hi1, hy, H⟩ K12 hK12
      show TrC _ _ _ _ [(9, _), (17, _), (8, _), (7, _), (0, _)] _ _
      refine tr_seq (fun K13 hK13 => ?_)
      refine tr_seq (fun K14 hK14 => ?_)
      -- region 8: ref.go:77
      refine tr_region ?_
      refine tr_val (ov_move rfl rfl) rfl rfl rfl ?_
      refine tr_val (ov_move rfl rfl) rfl rfl rfl ?_
      refine tr_val (ov_len rfl rfl Tryd.underlying24 rfl) rfl rfl rfl ?_
      refine tr_val (ov_lss rfl rfl rfl) rfl rfl rfl ?_
      refine tr_nil (hK14 _ _ (TrC.keep [23, 9, 17, 8, 7, 0] ?_))
      show TrC _ _ _ _ [(23, _), (9, _), (17, _), (8, _), (7, _), (0, _)] _ _
      first | refine tr_cond rfl (fun c23 => ?_) (fun c23 => ?_) | refine tr_condb rfl (fun c23 => ?_) (fun c23 => ?_)
      · skip
        refine tr_skip (hK13 _ _ (TrC.keep [23, 9, 17, 8, 7, 0] ?_))
        show TrC _ _ _ _ [(23, _), (9, _), (17, _), (8, _), (7, _), (0, _)] _ _
        refine tr_seq (fun K15 hK15 => ?_)
        refine tr_block ?_
        refine tr_seq (fun K16 hK16 => ?_)
        -- region 10: ref.go:78
        refine tr_region ?_
        refine tr_val (ov_move rfl rfl) rfl rfl rfl ?_
        refine tr_val (ov_move rfl rfl) rfl rfl rfl ?_
        refine tr_val (ov_indexAddrR (H.rd0 hR) rfl Tryd.underlying24 (Tryd.sizeOf29 _) rfl rfl (by omega) (by omega)) rfl rfl rfl ?_
        refine tr_val (ov_fieldAddr rfl Tryd.underlying29 rfl (Tryd.sizeOf3 _) (by decide) rfl) rfl rfl rfl ?_
        refine tr_val (ld_RThing_3 (H.rd0 hR) rfl (Tryd.isAgg3 _) rfl (by omega) (by omega)) rfl rfl rfl ?_
        refine tr_val (ov_move rfl rfl) rfl rfl rfl ?_
        refine tr_val (ov_move rfl rfl) rfl rfl rfl ?_
        refine tr_val (ov_add rfl rfl rfl (w64 (by omega))) rfl rfl rfl ?_
        refine tr_val (ov_rem rfl rfl rfl (by omega) (tmod64_pos (by omega))) rfl rfl rfl ?_
        refine tr_val (ov_eql rfl rfl rfl) rfl rfl rfl ?_
        refine tr_nil (hK16 _ _ (TrC.keep [35, 23, 9, 17, 8, 7, 0] ?_))
        show TrC _ _ _ _ [(35, _), (23, _), (9, _), (17, _), (8, _), (7, _), (0, _)] _ _
        first | refine tr_cond rfl (fun c35 => ?_) (fun c35 => ?_) | refine tr_condb rfl (fun c35 => ?_) (fun c35 => ?_)
        · skip
          refine tr_seq (fun K17 hK17 => ?_)
          -- region 11: ref.go:79
          refine tr_region ?_
          refine tr_val (ov_move rfl rfl) rfl rfl rfl ?_
          refine tr_val (ov_move rfl rfl) rfl rfl rfl ?_
          refine tr_val (ov_indexAddrR (H.rd0 hR) rfl Tryd.underlying24 (Tryd.sizeOf29 _) rfl rfl (by omega) (by omega)) rfl rfl rfl ?_
          refine tr_val (ov_fieldAddr rfl Tryd.underlying29 rfl (Tryd.sizeOf3 _) (by decide) rfl) rfl rfl rfl ?_
          refine tr_val (ld_RThing_3 (H.rd0 hR) rfl (Tryd.isAgg3 _) rfl (by omega) (by omega)) rfl rfl rfl ?_
          refine tr_val (ov_move rfl rfl) rfl rfl rfl ?_
          refine tr_val (ov_assign rfl rfl) rfl rfl rfl ?_
          refine tr_val (ov_assign rfl rfl) rfl rfl rfl ?_
          refine tr_val (ov_assign rfl rfl) rfl rfl rfl ?_
          refine tr_nil (hK17 _ _ (TrC.keep [6, 5, 4, 35, 23, 9, 17, 8, 7, 0] ?_))
          show TrC _ _ _ _ [(6, _), (5, _), (4, _), (35, _), (23, _), (9, _), (17, _), (8, _), (7, _), (0, _)] _ _
          refine tr_ret (post_ret3 (.inr rfl) rfl rfl rfl rfl ?_)
          have hh := hasS_any (W := W) hi0 (by omega) c35
          have hn : nextO W f = some s.toNat := by rw [← hx]; exact nxt_hit (p := (fun q : Nat => hasS W ((f % 64 + q) % 64))) hs0 (by omega) (by simpa [Int.toNat_of_nonneg hs0] using hh)
          unfold nextT; rw [hn]; exact ⟨by rw [c35]; show _ = Value.tuple #[.int .i64 ((f % 64 + (s.toNat : Int)) % 64), .int .i64 (s.toNat : Int), .bool true]; rw [Int.toNat_of_nonneg hs0], H⟩
        · skip
          refine tr_skip (hK15 _ _ (TrC.keep [35, 23, 9, 17, 8, 7, 0] ?_))
          show TrC _ _ _ _ [(35, _), (23, _), (9, _), (17, _), (8, _), (7, _), (0, _)] _ _
          -- region 9: ref.go:77
          refine tr_region ?_
          refine tr_val (ov_move rfl rfl) rfl rfl rfl ?_
          refine tr_val (ov_add rfl rfl rfl (w64 (by omega))) rfl rfl rfl ?_
          refine tr_val (ov_assign rfl rfl) rfl rfl rfl ?_
          skip
          exact tr_nil (hK12 (i + 1) _ _ (⟨by omega, by omega, hasS_snoc hi0 (by omega) hy c35, H⟩) (by first | omega | (dsimp only; omega)) (Sub.cons rfl (Sub.cons rfl (Sub.cons rfl (Sub.cons rfl (Sub.cons rfl Sub.nil))))))
      · skip
        refine tr_exit (hK10 _ _ (TrC.keep [23, 9, 17, 8, 7, 0] ?_))
        show TrC _ _ _ _ [(23, _), (9, _), (17, _), (8, _), (7, _), (0, _)] _ _
        -- region 6: ref.go:76
        refine tr_region ?_
        refine tr_val (ov_move rfl rfl) rfl rfl rfl ?_
        refine tr_val (ov_add rfl rfl rfl (w64 (by omega))) rfl rfl rfl ?_
        refine tr_val (ov_assign rfl rfl) rfl rfl rfl ?_
        have hW0 : W.take i.toNat = W := List.take_of_length_le (by omega)
        rw [hW0] at hy
        exact tr_nil (hK7 (s + 1) _ _ (⟨by omega, by omega, (nxt_step (p := (fun q : Nat => hasS W ((f % 64 + q) % 64))) hs0 (by omega) (by simpa [Int.toNat_of_nonneg hs0] using hy)).symm.trans hx, H⟩) (by first | omega | (dsimp only; omega)) (Sub.cons rfl (Sub.cons rfl (Sub.cons rfl Sub.nil))))
    · skip
      refine tr_exit (hK5 _ _ (TrC.keep [17, 8, 7, 0] ?_))
      show TrC _ _ _ _ [(17, _), (8, _), (7, _), (0, _)] _ _
      refine tr_seq (fun K18 hK18 => ?_)
      -- region 12: ref.go:83
      refine tr_region ?_
      refine tr_val (ov_assign rfl rfl) rfl rfl rfl ?_
      refine tr_val (ov_assign rfl rfl) rfl rfl rfl ?_
      refine tr_val (ov_assign rfl rfl) rfl rfl rfl ?_
      refine tr_nil (hK18 _ _ (TrC.keep [6, 5, 4, 17, 8, 7, 0] ?_))
      show TrC _ _ _ _ [(6, _), (5, _), (4, _), (17, _), (8, _), (7, _), (0, _)] _ _
      refine tr_ret (post_ret3 (.inr rfl) rfl rfl rfl rfl ?_)
      have hs : s = 64 := by omega
      subst hs
      have hn : nextO W f = none := by rw [← hx]; rfl
      unfold nextT; rw [hn]; exact ⟨rfl, H⟩

/-! curfew/curfewref11.Used -/
set_option maxRecDepth 20000 in
theorem UsedR_c (B : Option Addr) (c : Nat) (W : List RThing) (w : World) (hR : Rd w B 4 (W.map encRThing)) (hW : W.length ≤ 65536) (hw : Wf W) : Does Tryd.prog 17 #[.slice B W.length c] w (fun v w' => v = .int .u64 (usedN W : Nat) ∧ SH w noBlocks [] w') := by
  refine does_enter1 Tryd.func17 rfl Tryd.ntmps17 rfl ?_
  have H := SH.start w noBlocks
  refine tr_seq (fun K1 hK1 => ?_)
  -- region 0: ref.go:87
  refine tr_region ?_
  refine tr_val (ov_assign rfl rfl) rfl rfl rfl ?_
  refine tr_nil (hK1 _ _ (TrC.keep [2, 0] ?_))
  show TrC _ _ _ _ [(2, _), (0, _)] _ _
  refine tr_seq (fun K2 hK2 => ?_)
  -- region 1: ref.go:88
  refine tr_region ?_
  refine tr_val (ov_assign rfl rfl) rfl rfl rfl ?_
  refine tr_nil (hK2 _ _ (TrC.keep [3, 2, 0] ?_))
  show TrC _ _ _ _ [(3, _), (2, _), (0, _)] _ _
  refine tr_seq (fun K3 hK3 => ?_)
  refine tr_seq (fun K4 hK4 => ?_)
  -- region 2: ref.go:89
  refine tr_region ?_
  refine tr_val (ov_assign rfl rfl) rfl rfl rfl ?_
  refine tr_nil (hK4 _ _ (TrC.keep [4, 3, 2, 0] ?_))
  show TrC _ _ _ _ [(4, _), (3, _), (2, _), (0, _)] _ _
  refine tr_block ?_
  refine tr_loop_ (X := Int) [2, 0] (fun i => [(4, .int .i64 i), (3, .int .u64 (usedN (W.take i.toNat) : Nat))]) (fun i w' => 0 ≤ i ∧ i ≤ W.length ∧ SH w noBlocks [] w') (fun i => (W.length - i).toNat) (0) (Sub.cons rfl (Sub.cons rfl (Sub.cons rfl (Sub.cons rfl Sub.nil)))) (⟨by omega, by omega, H⟩) ?_
  rintro i w1 ⟨hi0, hi1, H⟩ K5 hK5
  show TrC _ _ _ _ [(4, _), (3, _), (2, _), (0, _)] _ _
  refine tr_seq (fun K6 hK6 => ?_)
  refine tr_seq (fun K7 hK7 => ?_)
  -- region 3: ref.go:89
  refine tr_region ?_
  refine tr_val (ov_move rfl rfl) rfl rfl rfl ?_
  refine tr_val (ov_move rfl rfl) rfl rfl rfl ?_
  refine tr_val (ov_len rfl rfl Tryd.underlying24 rfl) rfl rfl rfl ?_
  refine tr_val (ov_lss rfl rfl rfl) rfl rfl rfl ?_
  refine tr_nil (hK7 _ _ (TrC.keep [8, 4, 3, 2, 0] ?_))
  show TrC _ _ _ _ [(8, _), (4, _), (3, _), (2, _), (0, _)] _ _
  first | refine tr_cond rfl (fun c8 => ?_) (fun c8 => ?_) | refine tr_condb rfl (fun c8 => ?_) (fun c8 => ?_)
  · skip
    refine tr_skip (hK6 _ _ (TrC.keep [8, 4, 3, 2, 0] ?_))
    show TrC _ _ _ _ [(8, _), (4, _), (3, _), (2, _), (0, _)] _ _
    refine tr_seq (fun K8 hK8 => ?_)
    refine tr_block ?_
    -- region 5: ref.go:90
    have hsl := hw.slots _ (gt_mem (L := W) hi0 (by omega))
    have hu2 : usedN (W.take i.toNat) < 2 ^ 64 := usedN_lt ⟨List.Nodup.sublist (List.Sublist.map _ (List.take_sublist _ _)) hw.nodup, fun r hr => hw.slots r (List.mem_of_mem_take hr)⟩
    refine tr_region ?_
    refine tr_val (ov_move rfl rfl) rfl rfl rfl ?_
    refine tr_val (ov_move rfl rfl) rfl rfl rfl ?_
    refine tr_val (ov_move rfl rfl) rfl rfl rfl ?_
    refine tr_val (ov_indexAddrR (H.rd0 hR) rfl Tryd.underlying24 (Tryd.sizeOf29 _) rfl rfl (by omega) (by omega)) rfl rfl rfl ?_
    refine tr_val (ov_fieldAddr rfl Tryd.underlying29 rfl (Tryd.sizeOf3 _) (by decide) rfl) rfl rfl rfl ?_
    refine tr_val (ld_RThing_3 (H.rd0 hR) rfl (Tryd.isAgg3 _) rfl (by omega) (by omega)) rfl rfl rfl ?_
    refine tr_val (ov_shl rfl rfl rfl (by omega) (shl_bit (gt W i).slot (by omega) (by omega))) rfl rfl rfl ?_
    refine tr_val (ov_or rfl rfl rfl (or_u64 (usedN (W.take i.toNat)) (2 ^ (gt W i).slot.toNat) hu2 (Nat.pow_lt_pow_right (by decide) (by omega)))) rfl rfl rfl ?_
    refine tr_val (ov_assign rfl rfl) rfl rfl rfl ?_
    refine tr_nil (hK8 _ _ (TrC.keep [3, 8, 4, 2, 0] ?_))
    show TrC _ _ _ _ [(3, _), (8, _), (4, _), (2, _), (0, _)] _ _
    -- region 4: ref.go:89
    refine tr_region ?_
    refine tr_val (ov_move rfl rfl) rfl rfl rfl ?_
    refine tr_val (ov_add rfl rfl rfl (w64 (by omega))) rfl rfl rfl ?_
    refine tr_val (ov_assign rfl rfl) rfl rfl rfl ?_
    skip
    exact tr_nil (hK5 (i + 1) _ _ (⟨by omega, by omega, H⟩) (by first | omega | (dsimp only; omega)) (Sub.cons rfl (Sub.consE rfl (by rw [usedN_snoc hi0 (by omega)]) (Sub.cons rfl (Sub.cons rfl Sub.nil)))))
  · skip
    refine tr_exit (hK3 _ _ (TrC.keep [8, 4, 3, 2, 0] ?_))
    show TrC _ _ _ _ [(8, _), (4, _), (3, _), (2, _), (0, _)] _ _
    refine tr_seq (fun K9 hK9 => ?_)
    -- region 6: ref.go:92
    refine tr_region ?_
    refine tr_val (ov_move rfl rfl) rfl rfl rfl ?_
    refine tr_val (ov_assign rfl rfl) rfl rfl rfl ?_
    refine tr_nil (hK9 _ _ (TrC.keep [2, 8, 4, 3, 0] ?_))
    show TrC _ _ _ _ [(2, _), (8, _), (4, _), (3, _), (0, _)] _ _
    refine tr_ret (post_ret1 (.inr rfl) rfl rfl ?_)
    have eW : W.take i.toNat = W := List.take_of_length_le (by omega)
    rw [eW]; exact ⟨rfl, H⟩

end Go.Proofs.YtblipnjjgbggiaaDoor
