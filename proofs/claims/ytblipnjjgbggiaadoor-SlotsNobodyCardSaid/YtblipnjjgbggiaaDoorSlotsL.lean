/- Contracts of the laws of slots. Conditions: none. -/
import Derived.Test.YtblipnjjgbggiaaDoorSlots
namespace Go.Proofs.YtblipnjjgbggiaaDoor
open Go Go.RowKit
set_option linter.unusedVariables false
set_option linter.unusedSimpArgs false

def lvW1 : List RThing := [⟨1, 0, 0, 60⟩]
def lvW2 : List RThing := [⟨1, 0, 0, 60⟩, ⟨2, 0, 0, 3⟩]
theorem liveS1 : putV [] 60 ⟨1, 0, 0⟩ = (lvW1, 0) := by kernel_rfl
theorem liveS2 : putV lvW1 3 ⟨2, 0, 0⟩ = (lvW2, 0) := by kernel_rfl
theorem liveS3 : nextT lvW2 10 = .tuple #[.int .i64 60, .int .i64 50, .bool true] := by kernel_rfl
theorem liveS4 : nextT lvW2 61 = .tuple #[.int .i64 3, .int .i64 6, .bool true] := by kernel_rfl

/-! curfew/curfewlaw11.lives -/
set_option maxRecDepth 20000 in
theorem lives11_c (w : World) (hT : tabR.holds w) : Does Tryd.prog 6 #[] w (fun v w' => v = .bool true ∧ SH w noBlocks [] w') := by
  refine does_enter0 Tryd.func6 rfl Tryd.ntmps6 rfl ?_
  have H := SH.start w noBlocks
  refine tr_seq (fun K1 hK1 => ?_)
  -- region 0: law.go:11
  refine tr_region ?_
  refine tr_val (ov_assign rfl rfl) rfl rfl rfl ?_
  refine tr_nil (hK1 _ _ (TrC.keep [0] ?_))
  show TrC _ _ _ _ [(0, _)] _ _
  refine tr_seq (fun K2 hK2 => ?_)
  -- region 1: law.go:12
  refine tr_region ?_
  refine tr_call (ringNew_c _) rfl rfl rfl Tryd.call13 rfl rfl rfl ?_
  rintro _ w1 ⟨d, L0, rfl, hL0, HC⟩
  have H := H.call0r HC
  refine tr_val (ov_assign rfl rfl) rfl rfl rfl ?_
  refine tr_nil (hK2 _ _ (TrC.keep [1, 0] ?_))
  show TrC _ _ _ _ [(1, _), (0, _)] _ _
  refine tr_seq (fun K3 hK3 => ?_)
  -- region 2: law.go:13
  refine tr_region ?_
  refine tr_val (ov_move rfl rfl) rfl rfl rfl ?_
  refine tr_val (ov_build rfl (fun ρ k => bs1 k rfl) (bld27_0 _ _)) rfl rfl rfl ?_
  refine tr_call (ringPut_c d [] L0 _ hL0 H.get0 60 ⟨1, 0, 0⟩ (by decide)) rfl rfl rfl Tryd.call23 rfl rfl rfl ?_
  rintro _ w2 ⟨rfl, L1, hL1, HC⟩
  have H := H.call1 HC
  rw [liveS1] at hL1 ⊢
  refine tr_val (ov_move rfl rfl) rfl rfl rfl ?_
  refine tr_val (ov_build rfl (fun ρ k => bs1 k rfl) (bld27_0 _ _)) rfl rfl rfl ?_
  refine tr_call (ringPut_c d lvW1 L1 _ hL1 H.get0 3 ⟨2, 0, 0⟩ (by decide)) rfl rfl rfl Tryd.call23 rfl rfl rfl ?_
  rintro _ w3 ⟨rfl, L2, hL2, HC⟩
  have H := H.call1 HC
  rw [liveS2] at hL2 ⊢
  refine tr_val (ov_assign rfl rfl) rfl rfl rfl ?_
  refine tr_val (ov_assign rfl rfl) rfl rfl rfl ?_
  refine tr_nil (hK3 _ _ (TrC.keep [3, 2, 1, 0] ?_))
  show TrC _ _ _ _ [(3, _), (2, _), (1, _), (0, _)] _ _
  refine tr_seq (fun K4 hK4 => ?_)
  -- region 3: law.go:14
  refine tr_region ?_
  refine tr_val (ov_move rfl rfl) rfl rfl rfl ?_
  refine tr_call (ringNext_c d lvW2 L2 _ hL2 H.get0 10 (H.res0 hT)) rfl rfl rfl Tryd.call22 rfl rfl rfl ?_
  rintro _ w4 ⟨rfl, HC⟩
  have H := H.call0n HC
  rw [liveS3]
  refine tr_val (ov_move rfl rfl) rfl rfl rfl ?_
  refine tr_val (ov_extract rfl rfl rfl) rfl rfl rfl ?_
  refine tr_val (ov_extract rfl rfl rfl) rfl rfl rfl ?_
  refine tr_val (ov_extract rfl rfl rfl) rfl rfl rfl ?_
  refine tr_val (ov_assign rfl rfl) rfl rfl rfl ?_
  refine tr_val (ov_assign rfl rfl) rfl rfl rfl ?_
  refine tr_val (ov_assign rfl rfl) rfl rfl rfl ?_
  refine tr_nil (hK4 _ _ (TrC.keep [6, 5, 4, 3, 2, 1, 0] ?_))
  show TrC _ _ _ _ [(6, _), (5, _), (4, _), (3, _), (2, _), (1, _), (0, _)] _ _
  refine tr_seq (fun K5 hK5 => ?_)
  -- region 4: law.go:15
  refine tr_region ?_
  refine tr_val (ov_move rfl rfl) rfl rfl rfl ?_
  refine tr_call (ringNext_c d lvW2 L2 _ hL2 H.get0 61 (H.res0 hT)) rfl rfl rfl Tryd.call22 rfl rfl rfl ?_
  rintro _ w5 ⟨rfl, HC⟩
  have H := H.call0n HC
  rw [liveS4]
  refine tr_val (ov_move rfl rfl) rfl rfl rfl ?_
  refine tr_val (ov_extract rfl rfl rfl) rfl rfl rfl ?_
  refine tr_val (ov_extract rfl rfl rfl) rfl rfl rfl ?_
  refine tr_val (ov_extract rfl rfl rfl) rfl rfl rfl ?_
  refine tr_val (ov_assign rfl rfl) rfl rfl rfl ?_
  refine tr_val (ov_assign rfl rfl) rfl rfl rfl ?_
  refine tr_val (ov_assign rfl rfl) rfl rfl rfl ?_
  refine tr_nil (hK5 _ _ (TrC.keep [9, 8, 7, 6, 5, 4, 3, 2, 1, 0] ?_))
  show TrC _ _ _ _ [(9, _), (8, _), (7, _), (6, _), (5, _), (4, _), (3, _), (2, _), (1, _), (0, _)] _ _
  refine tr_seq (fun K6 hK6 => ?_)
  -- region 5: law.go:16
  refine tr_region ?_
  refine tr_val (ov_move rfl rfl) rfl rfl rfl ?_
  refine tr_val (ov_eql rfl rfl rfl) rfl rfl rfl ?_
  refine tr_val (ov_move rfl rfl) rfl rfl rfl ?_
  first | refine tr_split (t := 31) rfl (fun s31 => ?_) (fun s31 => ?_) | refine tr_splitb (t := 31) rfl (fun s31 => ?_) (fun s31 => ?_)
  · skip
    refine tr_val (ov_move rfl rfl) rfl rfl rfl ?_
    refine tr_val (ov_eql rfl rfl rfl) rfl rfl rfl ?_
    refine tr_val (ov_pick (vb := undef) rfl rfl rfl rfl) rfl rfl rfl ?_
    refine tr_val (ov_move rfl rfl) rfl rfl rfl ?_
    first | refine tr_split (t := 35) rfl (fun s35 => ?_) (fun s35 => ?_) | refine tr_splitb (t := 35) rfl (fun s35 => ?_) (fun s35 => ?_)
    · skip
      refine tr_val (ov_move rfl rfl) rfl rfl rfl ?_
      refine tr_val (ov_eql rfl rfl rfl) rfl rfl rfl ?_
      refine tr_val (ov_pick (vb := undef) rfl rfl rfl rfl) rfl rfl rfl ?_
      refine tr_val (ov_move rfl rfl) rfl rfl rfl ?_
      first | refine tr_split (t := 39) rfl (fun s39 => ?_) (fun s39 => ?_) | refine tr_splitb (t := 39) rfl (fun s39 => ?_) (fun s39 => ?_)
      · skip
        refine tr_val (ov_move rfl rfl) rfl rfl rfl ?_
        refine tr_val (ov_eql rfl rfl rfl) rfl rfl rfl ?_
        refine tr_val (ov_pick (vb := undef) rfl rfl rfl rfl) rfl rfl rfl ?_
        refine tr_val (ov_move rfl rfl) rfl rfl rfl ?_
        first | refine tr_split (t := 43) rfl (fun s43 => ?_) (fun s43 => ?_) | refine tr_splitb (t := 43) rfl (fun s43 => ?_) (fun s43 => ?_)
        · skip
          refine tr_val (ov_move rfl rfl) rfl rfl rfl ?_
          refine tr_val (ov_pick (vb := undef) rfl rfl rfl rfl) rfl rfl rfl ?_
          refine tr_val (ov_move rfl rfl) rfl rfl rfl ?_
          first | refine tr_split (t := 46) rfl (fun s46 => ?_) (fun s46 => ?_) | refine tr_splitb (t := 46) rfl (fun s46 => ?_) (fun s46 => ?_)
          · skip
            refine tr_val (ov_move rfl rfl) rfl rfl rfl ?_
            refine tr_val (ov_eql rfl rfl rfl) rfl rfl rfl ?_
            refine tr_val (ov_pick (vb := undef) rfl rfl rfl rfl) rfl rfl rfl ?_
            refine tr_val (ov_move rfl rfl) rfl rfl rfl ?_
            first | refine tr_split (t := 50) rfl (fun s50 => ?_) (fun s50 => ?_) | refine tr_splitb (t := 50) rfl (fun s50 => ?_) (fun s50 => ?_)
            · skip
              refine tr_val (ov_move rfl rfl) rfl rfl rfl ?_
              refine tr_val (ov_eql rfl rfl rfl) rfl rfl rfl ?_
              refine tr_val (ov_pick (vb := undef) rfl rfl rfl rfl) rfl rfl rfl ?_
              refine tr_val (ov_move rfl rfl) rfl rfl rfl ?_
              first | refine tr_split (t := 54) rfl (fun s54 => ?_) (fun s54 => ?_) | refine tr_splitb (t := 54) rfl (fun s54 => ?_) (fun s54 => ?_)
              · skip
                refine tr_val (ov_move rfl rfl) rfl rfl rfl ?_
                refine tr_val (ov_pick (vb := undef) rfl rfl rfl rfl) rfl rfl rfl ?_
                refine tr_val (ov_move rfl rfl) rfl rfl rfl ?_
                first | refine tr_split (t := 57) rfl (fun s57 => ?_) (fun s57 => ?_) | refine tr_splitb (t := 57) rfl (fun s57 => ?_) (fun s57 => ?_)
                · skip
                  refine tr_val (ov_move rfl rfl) rfl rfl rfl ?_
                  refine tr_call (ringLen_c d lvW2 L2 _ hL2 H.get0) rfl rfl rfl Tryd.call15 rfl rfl rfl ?_
                  rintro _ w6 ⟨rfl, HC⟩
                  have H := H.call0n HC
                  refine tr_val (ov_eql rfl rfl rfl) rfl rfl rfl ?_
                  refine tr_val (ov_pick (vb := undef) rfl rfl rfl rfl) rfl rfl rfl ?_
                  refine tr_val (ov_assign rfl rfl) rfl rfl rfl ?_
                  refine tr_nil (hK6 _ _ (TrC.keep [0, 1] ?_))
                  show TrC _ _ _ _ [(0, _), (1, _)] _ _
                  refine tr_ret (post_ret1 (.inr rfl) rfl rfl ?_)
                  exact ⟨congrArg Value.bool (by decide), H.drop0⟩
                · first | exact absurd rfl s57 | cases s57 | exact absurd s57 (by decide)
              · first | exact absurd rfl s54 | cases s54 | exact absurd s54 (by decide)
            · first | exact absurd rfl s50 | cases s50 | exact absurd s50 (by decide)
          · first | exact absurd rfl s46 | cases s46 | exact absurd s46 (by decide)
        · first | exact absurd rfl s43 | cases s43 | exact absurd s43 (by decide)
      · first | exact absurd rfl s39 | cases s39 | exact absurd s39 (by decide)
    · first | exact absurd rfl s35 | cases s35 | exact absurd s35 (by decide)
  · first | exact absurd rfl s31 | cases s31 | exact absurd s31 (by decide)

theorem PutRo_c (B : Option Addr) (c : Nat) (W : List RThing) (w : World) (hO : (rdr B 4 (W.map encRThing)).holds w) (hW : W.length ≤ 65536) (hc : W.length ≤ c) (s : Int) (t : Thing) : Does Tryd.prog 30 #[.slice B W.length c, .int .i64 s, .agg #[.int .u64 (toR t 0).id, .int .u64 (toR t 0).gen, .int .i64 (toR t 0).due, .int .i64 (toR t 0).slot]] w (fun v w' => ∃ A' c', v = .tuple #[.slice A' (putV W s t).1.length c', .int .i64 (putV W s t).2] ∧ (putV W s t).1.length ≤ c' ∧ SH w (rdr B 4 (W.map encRThing)).foot [rdr A' 4 ((putV W s t).1.map encRThing)] w') := by
  refine (PutR_c B c W w (rdr_rd hO) hW s t).mono fun v w' h => ?_
  obtain ⟨A', c', h1, h2⟩ := h
  refine ⟨A', c', h1, ?_⟩
  rcases h2 with ⟨rfl, rfl, e, H⟩ | H
  · rw [e]; exact ⟨hc, (SH.own1 hO).call0n H⟩
  · have H2 := (SH.own1 hO).call0r H
    exact ⟨vec_len H2.get0, (H2.upd0 (upd_rdr_of_vec H2.get0 lenRThing (by decide))).drop1⟩

/-! curfew/curfewlaw11.do -/
set_option maxRecDepth 20000 in
theorem do11_c (B : Option Addr) (c : Nat) (W : List RThing) (hc : W.length ≤ c) (hW : W.length ≤ 60000) (d : Nat) (L : List Res) (w : World) (hL : RingL 54 27 d W L) (hO : Own [rdr B 4 (W.map encRThing), pack L] w) (hT : tabR.holds w) (hT' : ∀ b, tabR.foot b → ¬ footAll [rdr B 4 (W.map encRThing), pack L] b) (q : SOp) : Does Tryd.prog 14 #[.pointer (some ⟨d, 0, none⟩), .slice B W.length c, .agg #[.int .i64 q.kind, .int .i64 q.slot, .int .u64 q.th.id, .int .u64 q.th.gen, .int .i64 q.th.due]] w (fun v w' => ∃ A' c', v = .tuple #[.slice A' (doV W q).length c', .bool true] ∧ (doV W q).length ≤ c' ∧ ∃ L', RingL 54 27 d (doV W q) L' ∧ SH w (footAll [rdr B 4 (W.map encRThing), pack L]) [rdr A' 4 ((doV W q).map encRThing), pack L'] w') := by
  refine does_enter3 Tryd.func14 rfl Tryd.ntmps14 rfl ?_
  have H := SH.ofOwn hO
  refine tr_seq (fun K1 hK1 => ?_)
  -- region 0: law.go:61
  refine tr_region ?_
  refine tr_box H rfl rfl rfl rfl rfl rfl ?_
  intro b1 w1 hb1 H
  refine tr_val (ov_assign rfl rfl) rfl rfl rfl ?_
  refine tr_val (ov_assign rfl rfl) rfl rfl rfl ?_
  refine tr_nil (hK1 _ _ (TrC.keep [7, 6, 5, 0, 1] ?_))
  show TrC _ _ _ _ [(7, _), (6, _), (5, _), (0, _), (1, _)] _ _
  refine tr_seq (fun K2 hK2 => ?_)
  -- region 1: law.go:62
  refine tr_region ?_
  refine tr_val (ov_move rfl rfl) rfl rfl rfl ?_
  refine tr_val (ov_fieldAddr rfl Tryd.underlying41 rfl (Tryd.sizeOf27 _) (by decide) rfl) rfl rfl rfl ?_
  refine tr_val (ov_fieldAddr rfl Tryd.underlying27 rfl (Tryd.sizeOf25 _) (by decide) rfl) rfl rfl rfl ?_
  first | refine tr_val (ov_load_blk H.get0 rfl (Tryd.isAgg25 _) rfl rfl rfl) rfl rfl rfl ?_ | refine tr_val (ov_load_blk H.get1 rfl (Tryd.isAgg25 _) rfl rfl rfl) rfl rfl rfl ?_ | refine tr_val (ov_load_blk H.get2 rfl (Tryd.isAgg25 _) rfl rfl rfl) rfl rfl rfl ?_ | refine tr_val (ov_load_blk H.get3 rfl (Tryd.isAgg25 _) rfl rfl rfl) rfl rfl rfl ?_ | refine tr_val (ov_load_blk H.get4 rfl (Tryd.isAgg25 _) rfl rfl rfl) rfl rfl rfl ?_ | refine tr_val (ov_load_blk H.get5 rfl (Tryd.isAgg25 _) rfl rfl rfl) rfl rfl rfl ?_ | refine tr_val (ov_load_blk H.get6 rfl (Tryd.isAgg25 _) rfl rfl rfl) rfl rfl rfl ?_ | refine tr_val (ov_load_blk H.get7 rfl (Tryd.isAgg25 _) rfl rfl rfl) rfl rfl rfl ?_
  refine tr_call (FindR_c B c W _ (rdr_rd H.get1) (by omega) q.th.id) rfl rfl rfl Tryd.call27 rfl rfl rfl ?_
  rintro _ w2 ⟨rfl, HC⟩
  have H := H.call0n HC
  refine tr_val (ov_assign rfl rfl) rfl rfl rfl ?_
  refine tr_nil (hK2 _ _ (TrC.keep [8, 7, 6, 5, 0, 1] ?_))
  show TrC _ _ _ _ [(8, _), (7, _), (6, _), (5, _), (0, _), (1, _)] _ _
  refine tr_seq (fun K3 hK3 => ?_)
  -- region 2: law.go:63
  refine tr_region ?_
  refine tr_val (ov_fieldAddr rfl Tryd.underlying41 rfl (Tryd.sizeOf3 _) (by decide) rfl) rfl rfl rfl ?_
  first | refine tr_val (ov_load_blk H.get0 rfl (Tryd.isAgg3 _) rfl rfl rfl) rfl rfl rfl ?_ | refine tr_val (ov_load_blk H.get1 rfl (Tryd.isAgg3 _) rfl rfl rfl) rfl rfl rfl ?_ | refine tr_val (ov_load_blk H.get2 rfl (Tryd.isAgg3 _) rfl rfl rfl) rfl rfl rfl ?_ | refine tr_val (ov_load_blk H.get3 rfl (Tryd.isAgg3 _) rfl rfl rfl) rfl rfl rfl ?_ | refine tr_val (ov_load_blk H.get4 rfl (Tryd.isAgg3 _) rfl rfl rfl) rfl rfl rfl ?_ | refine tr_val (ov_load_blk H.get5 rfl (Tryd.isAgg3 _) rfl rfl rfl) rfl rfl rfl ?_ | refine tr_val (ov_load_blk H.get6 rfl (Tryd.isAgg3 _) rfl rfl rfl) rfl rfl rfl ?_ | refine tr_val (ov_load_blk H.get7 rfl (Tryd.isAgg3 _) rfl rfl rfl) rfl rfl rfl ?_
  refine tr_nil (hK3 _ _ (TrC.keep [31, 8, 7, 6, 5, 0, 1] ?_))
  show TrC _ _ _ _ [(31, _), (8, _), (7, _), (6, _), (5, _), (0, _), (1, _)] _ _
  refine tr_block ?_
  refine tr_seq (fun K4 hK4 => ?_)
  -- region 5: law.go:64
  refine tr_region ?_
  refine tr_val (ov_eql rfl rfl rfl) rfl rfl rfl ?_
  refine tr_val (ov_assign rfl rfl) rfl rfl rfl ?_
  refine tr_nil (hK4 _ _ (TrC.keep [51, 31, 8, 7, 6, 5, 0, 1] ?_))
  show TrC _ _ _ _ [(51, _), (31, _), (8, _), (7, _), (6, _), (5, _), (0, _), (1, _)] _ _
  first | refine tr_cond rfl (fun c51 => ?_) (fun c51 => ?_) | refine tr_condb rfl (fun c51 => ?_) (fun c51 => ?_)
  · skip
    refine tr_seq (fun K5 hK5 => ?_)
    -- region 6: law.go:65
    refine tr_region ?_
    refine tr_val (ov_move rfl rfl) rfl rfl rfl ?_
    refine tr_val (ov_fieldAddr rfl Tryd.underlying41 rfl (Tryd.sizeOf27 _) (by decide) rfl) rfl rfl rfl ?_
    refine tr_val (ov_fieldAddr rfl Tryd.underlying27 rfl (Tryd.sizeOf25 _) (by decide) rfl) rfl rfl rfl ?_
    first | refine tr_val (ov_load_blk H.get0 rfl (Tryd.isAgg25 _) rfl rfl rfl) rfl rfl rfl ?_ | refine tr_val (ov_load_blk H.get1 rfl (Tryd.isAgg25 _) rfl rfl rfl) rfl rfl rfl ?_ | refine tr_val (ov_load_blk H.get2 rfl (Tryd.isAgg25 _) rfl rfl rfl) rfl rfl rfl ?_ | refine tr_val (ov_load_blk H.get3 rfl (Tryd.isAgg25 _) rfl rfl rfl) rfl rfl rfl ?_ | refine tr_val (ov_load_blk H.get4 rfl (Tryd.isAgg25 _) rfl rfl rfl) rfl rfl rfl ?_ | refine tr_val (ov_load_blk H.get5 rfl (Tryd.isAgg25 _) rfl rfl rfl) rfl rfl rfl ?_ | refine tr_val (ov_load_blk H.get6 rfl (Tryd.isAgg25 _) rfl rfl rfl) rfl rfl rfl ?_ | refine tr_val (ov_load_blk H.get7 rfl (Tryd.isAgg25 _) rfl rfl rfl) rfl rfl rfl ?_
    refine tr_call (ringDrop_c d W L _ hL H.get2 q.th.id (by omega)) rfl rfl rfl Tryd.call20 rfl rfl rfl ?_
    rintro _ w3 ⟨rfl, L1, hL1, HC⟩
    have H := H.top2.call1 HC
    refine tr_val (ov_move rfl rfl) rfl rfl rfl ?_
    refine tr_val (ov_extract rfl rfl rfl) rfl rfl rfl ?_
    refine tr_val (ov_extract rfl rfl rfl) rfl rfl rfl ?_
    refine tr_alloc H rfl (Tryd.zeroValue27 _) rfl rfl rfl rfl ?_
    intro b2 w4 hb2 H
    first | (refine tr_storeW H.get0 rfl (Tryd.sizeOf27 _) rfl rfl rfl rfl rfl rfl rfl rfl ?_; intro w5 U; have H := H.upd0 U; clear U) | (refine tr_storeW H.get1 rfl (Tryd.sizeOf27 _) rfl rfl rfl rfl rfl rfl rfl rfl ?_; intro w5 U; have H := H.upd1 U; clear U) | (refine tr_storeW H.get2 rfl (Tryd.sizeOf27 _) rfl rfl rfl rfl rfl rfl rfl rfl ?_; intro w5 U; have H := H.upd2 U; clear U) | (refine tr_storeW H.get3 rfl (Tryd.sizeOf27 _) rfl rfl rfl rfl rfl rfl rfl rfl ?_; intro w5 U; have H := H.upd3 U; clear U) | (refine tr_storeW H.get4 rfl (Tryd.sizeOf27 _) rfl rfl rfl rfl rfl rfl rfl rfl ?_; intro w5 U; have H := H.upd4 U; clear U) | (refine tr_storeW H.get5 rfl (Tryd.sizeOf27 _) rfl rfl rfl rfl rfl rfl rfl rfl ?_; intro w5 U; have H := H.upd5 U; clear U) | (refine tr_storeW H.get6 rfl (Tryd.sizeOf27 _) rfl rfl rfl rfl rfl rfl rfl rfl ?_; intro w5 U; have H := H.upd6 U; clear U) | (refine tr_storeW H.get7 rfl (Tryd.sizeOf27 _) rfl rfl rfl rfl rfl rfl rfl rfl ?_; intro w5 U; have H := H.upd7 U; clear U)
    refine tr_val (ov_assign rfl rfl) rfl rfl rfl ?_
    refine tr_nil (hK5 _ _ (TrC.keep [10, 9, 51, 31, 8, 7, 6, 5, 0, 1] ?_))
    show TrC _ _ _ _ [(10, _), (9, _), (51, _), (31, _), (8, _), (7, _), (6, _), (5, _), (0, _), (1, _)] _ _
    refine tr_seq (fun K6 hK6 => ?_)
    refine tr_seq (fun K7 hK7 => ?_)
    -- region 7: law.go:66
    refine tr_region ?_
    refine tr_val (ov_move rfl rfl) rfl rfl rfl ?_
    refine tr_val (ov_lss rfl rfl rfl) rfl rfl rfl ?_
    refine tr_nil (hK7 _ _ (TrC.keep [62, 10, 9, 51, 31, 8, 7, 6, 5, 0, 1] ?_))
    show TrC _ _ _ _ [(62, _), (10, _), (9, _), (51, _), (31, _), (8, _), (7, _), (6, _), (5, _), (0, _), (1, _)] _ _
    first | refine tr_cond rfl (fun c62 => ?_) (fun c62 => ?_) | refine tr_condb rfl (fun c62 => ?_) (fun c62 => ?_)
    · skip
      refine tr_seq (fun K8 hK8 => ?_)
      -- region 8: law.go:67
      have hn := idxR_neg c62
      rw [hn] at H ⊢
      refine tr_quiet mixed (by kernel_rfl) H ?_
      refine tq_val (fun _ H => ov_move rfl rfl) rfl rfl rfl ?_
      refine tq_val (fun _ H => ov_move rfl rfl) rfl rfl rfl ?_
      first | refine tq_val (fun _ H => ov_not rfl rfl) rfl rfl rfl ?_ | refine tq_val (fun _ H => ov_notb rfl rfl) rfl rfl rfl ?_
      refine tq_val (fun _ H => ov_move rfl rfl) rfl rfl rfl ?_
      first | refine tq_split (t := 66) rfl (fun s66 => ?_) (fun s66 => ?_) | refine tq_splitb (t := 66) rfl (fun s66 => ?_) (fun s66 => ?_)
      · skip
        first | refine tq_val (fun _ H => ov_load_blkN H.get0 rfl (Tryd.isAgg27 _) (Tryd.sizeOf27 _) rfl rfl rfl) rfl rfl rfl ?_ | refine tq_val (fun _ H => ov_load_blkN H.get1 rfl (Tryd.isAgg27 _) (Tryd.sizeOf27 _) rfl rfl rfl) rfl rfl rfl ?_ | refine tq_val (fun _ H => ov_load_blkN H.get2 rfl (Tryd.isAgg27 _) (Tryd.sizeOf27 _) rfl rfl rfl) rfl rfl rfl ?_ | refine tq_val (fun _ H => ov_load_blkN H.get3 rfl (Tryd.isAgg27 _) (Tryd.sizeOf27 _) rfl rfl rfl) rfl rfl rfl ?_ | refine tq_val (fun _ H => ov_load_blkN H.get4 rfl (Tryd.isAgg27 _) (Tryd.sizeOf27 _) rfl rfl rfl) rfl rfl rfl ?_ | refine tq_val (fun _ H => ov_load_blkN H.get5 rfl (Tryd.isAgg27 _) (Tryd.sizeOf27 _) rfl rfl rfl) rfl rfl rfl ?_ | refine tq_val (fun _ H => ov_load_blkN H.get6 rfl (Tryd.isAgg27 _) (Tryd.sizeOf27 _) rfl rfl rfl) rfl rfl rfl ?_ | refine tq_val (fun _ H => ov_load_blkN H.get7 rfl (Tryd.isAgg27 _) (Tryd.sizeOf27 _) rfl rfl rfl) rfl rfl rfl ?_
        refine tq_val (fun _ H => ov_build rfl (fun ρ k => bs0 k) (bld27 _)) rfl rfl rfl ?_
        refine tq_val (fun _ H => ov_eqTh (s := plainR (rOr none)) (t := ⟨0, 0, 0⟩) rfl rfl rfl) rfl rfl rfl ?_
        refine tq_val (fun _ H => ov_pick (vb := undef) rfl rfl rfl rfl) rfl rfl rfl ?_
        refine tq_val (fun _ H => ov_assign rfl rfl) rfl rfl rfl ?_
        refine tq_val (fun _ H => ov_assign rfl rfl) rfl rfl rfl ?_
        refine tq_nil ?_
        intro w6 H
        refine hK8 _ _ (TrC.keep [7, 6, 62, 10, 9, 51, 31, 8, 5, 0, 1] ?_)
        show TrC _ _ _ _ [(7, _), (6, _), (62, _), (10, _), (9, _), (51, _), (31, _), (8, _), (5, _), (0, _), (1, _)] _ _
        refine tr_ret (post_ret2 (.inr rfl) rfl rfl rfl ?_)
        have e : doV W q = dropR q.th.id W := by unfold doV; rw [if_pos c51]
        rw [e]
        rw [dropR_none hn] at hL1 ⊢
        exact ⟨B, c, congrArg (fun b => Value.tuple #[.slice B W.length c, .bool b]) (decide_eq_true rfl), hc, L1, hL1, H.drop0.drop1.top1⟩
      · first | exact absurd rfl s66 | cases s66 | exact absurd s66 (by decide)
    · skip
      refine tr_skip (hK6 _ _ (TrC.keep [62, 10, 9, 51, 31, 8, 7, 6, 5, 0, 1] ?_))
      show TrC _ _ _ _ [(62, _), (10, _), (9, _), (51, _), (31, _), (8, _), (7, _), (6, _), (5, _), (0, _), (1, _)] _ _
      refine tr_seq (fun K9 hK9 => ?_)
      -- region 9: law.go:69
      obtain ⟨r, hf⟩ := idxR_pos c62
      obtain ⟨hi0, hi1, hi2, hi3⟩ := idxR_some hf
      rw [hf] at H ⊢
      refine tr_held (fun w' => (blk b2 27 [.int .u64 r.id, .int .u64 r.gen, .int .i64 r.due]).holds w') mixed rfl H ?_
      intro w7 H
      refine th_take 0 rfl (by kernel_rfl) (by kernel_rfl) (by kernel_rfl) ((by first | exact H.get0 | exact H.get1 | exact H.get2 | exact H.get3)) (fun _ hS => ov_move rfl rfl) rfl rfl rfl ?_
      refine th_take 1 rfl (by kernel_rfl) (by kernel_rfl) (by kernel_rfl) ((by first | exact H.get0 | exact H.get1 | exact H.get2 | exact H.get3)) (fun _ hS => ov_move rfl rfl) rfl rfl rfl ?_
      refine th_take 3 rfl (by kernel_rfl) (by kernel_rfl) (by kernel_rfl) ((by first | exact H.get0 | exact H.get1 | exact H.get2 | exact H.get3)) (fun _ hS => ov_move rfl rfl) rfl rfl rfl ?_
      refine th_one 2 (by kernel_rfl) ?_
      refine tw_call (Without_c B c W _ (by first | exact rdr_rd H.get0 | exact rdr_rd H.get1 | exact rdr_rd H.get2 | exact rdr_rd H.get3 | exact rdr_rd H.get4 | exact rdr_rd H.get5 | exact rdr_rd H.get6 | exact rdr_rd H.get7) (by omega) hc (idxR q.th.id W) hi0 hi1) rfl rfl rfl rfl Tryd.call28 rfl rfl rfl ?_
      rintro _ w8 ⟨A3, c3, rfl, HC⟩
      have H := H.call0r HC
      refine ⟨(by first | exact H.get0 | exact H.get1 | exact H.get2 | exact H.get3), ?_⟩
      refine th_take 4 rfl (by kernel_rfl) (by kernel_rfl) (by kernel_rfl) ((by first | exact H.get0 | exact H.get1 | exact H.get2 | exact H.get3)) (fun _ hS => ov_move rfl rfl) rfl rfl rfl ?_
      first | refine th_split (t := 75) rfl (fun s75 => ?_) (fun s75 => ?_) | refine th_splitb (t := 75) rfl (fun s75 => ?_) (fun s75 => ?_)
      · skip
        first | refine th_take 5 rfl (by kernel_rfl) (by kernel_rfl) (by kernel_rfl) ((by first | exact H.get0 | exact H.get1 | exact H.get2 | exact H.get3)) (fun _ hS => ov_load_blkN hS rfl (Tryd.isAgg27 _) (Tryd.sizeOf27 _) rfl rfl rfl) rfl rfl rfl ?_ | refine th_take 5 rfl (by kernel_rfl) (by kernel_rfl) (by kernel_rfl) ((by first | exact H.get0 | exact H.get1 | exact H.get2 | exact H.get3)) (fun _ hS => ov_load_blkN hS.1 rfl (Tryd.isAgg27 _) (Tryd.sizeOf27 _) rfl rfl rfl) rfl rfl rfl ?_ | refine th_take 5 rfl (by kernel_rfl) (by kernel_rfl) (by kernel_rfl) ((by first | exact H.get0 | exact H.get1 | exact H.get2 | exact H.get3)) (fun _ hS => ov_load_blkN hS.2.1 rfl (Tryd.isAgg27 _) (Tryd.sizeOf27 _) rfl rfl rfl) rfl rfl rfl ?_ | refine th_take 5 rfl (by kernel_rfl) (by kernel_rfl) (by kernel_rfl) ((by first | exact H.get0 | exact H.get1 | exact H.get2 | exact H.get3)) (fun _ hS => ov_load_blkN hS.2.2.1 rfl (Tryd.isAgg27 _) (Tryd.sizeOf27 _) rfl rfl rfl) rfl rfl rfl ?_ | refine th_take 5 rfl (by kernel_rfl) (by kernel_rfl) (by kernel_rfl) ((by first | exact H.get0 | exact H.get1 | exact H.get2 | exact H.get3)) (fun _ hS => ov_load_blkN hS.2.2.2.1 rfl (Tryd.isAgg27 _) (Tryd.sizeOf27 _) rfl rfl rfl) rfl rfl rfl ?_ | refine th_take 5 rfl (by kernel_rfl) (by kernel_rfl) (by kernel_rfl) ((by first | exact H.get0 | exact H.get1 | exact H.get2 | exact H.get3)) (fun _ hS => ov_load_blkN hS.2.2.2.2.1 rfl (Tryd.isAgg27 _) (Tryd.sizeOf27 _) rfl rfl rfl) rfl rfl rfl ?_ | refine th_take 5 rfl (by kernel_rfl) (by kernel_rfl) (by kernel_rfl) ((by first | exact H.get0 | exact H.get1 | exact H.get2 | exact H.get3)) (fun _ hS => ov_load_blkN hS.2 rfl (Tryd.isAgg27 _) (Tryd.sizeOf27 _) rfl rfl rfl) rfl rfl rfl ?_ | refine th_take 5 rfl (by kernel_rfl) (by kernel_rfl) (by kernel_rfl) ((by first | exact H.get0 | exact H.get1 | exact H.get2 | exact H.get3)) (fun _ hS => ov_load_blkN hS.2.2 rfl (Tryd.isAgg27 _) (Tryd.sizeOf27 _) rfl rfl rfl) rfl rfl rfl ?_ | refine th_take 5 rfl (by kernel_rfl) (by kernel_rfl) (by kernel_rfl) ((by first | exact H.get0 | exact H.get1 | exact H.get2 | exact H.get3)) (fun _ hS => ov_load_blkN hS.2.2.2 rfl (Tryd.isAgg27 _) (Tryd.sizeOf27 _) rfl rfl rfl) rfl rfl rfl ?_ | refine th_take 5 rfl (by kernel_rfl) (by kernel_rfl) (by kernel_rfl) ((by first | exact H.get0 | exact H.get1 | exact H.get2 | exact H.get3)) (fun _ hS => ov_load_blkN hS.2.2.2.2 rfl (Tryd.isAgg27 _) (Tryd.sizeOf27 _) rfl rfl rfl) rfl rfl rfl ?_
        refine th_take 7 rfl (by kernel_rfl) (by kernel_rfl) (by kernel_rfl) ((by first | exact H.get0 | exact H.get1 | exact H.get2 | exact H.get3)) (fun _ hS => ov_move rfl rfl) rfl rfl rfl ?_
        refine th_take 8 rfl (by kernel_rfl) (by kernel_rfl) (by kernel_rfl) ((by first | exact H.get0 | exact H.get1 | exact H.get2 | exact H.get3)) (fun _ hS => ov_move rfl rfl) rfl rfl rfl ?_
        refine th_take 9 rfl (by kernel_rfl) (by kernel_rfl) (by kernel_rfl) ((by first | exact H.get0 | exact H.get1 | exact H.get2 | exact H.get3)) (fun _ hS => ov_move rfl rfl) rfl rfl rfl ?_
        refine th_take 10 rfl (by kernel_rfl) (by kernel_rfl) (by kernel_rfl) ((by first | exact H.get0 | exact H.get1 | exact H.get2 | exact H.get3)) (fun _ hS => ov_add rfl rfl rfl (w64 (by omega))) rfl rfl rfl ?_
        refine th_take 11 rfl (by kernel_rfl) (by kernel_rfl) (by kernel_rfl) ((by first | exact H.get0 | exact H.get1 | exact H.get2 | exact H.get3)) (fun _ hS => ov_eq (ov_slice rfl Tryd.underlying24 (Tryd.sizeOf29 _) rfl rfl rfl (by omega) (by omega) (by omega)) (show _ = Value.slice (if c = (idxR q.th.id W).toNat then B else B.map (·.add ((idxR q.th.id W).toNat * 4))) 1 (c - (idxR q.th.id W).toNat) by rw [show ((idxR q.th.id W) + 1).toNat - (idxR q.th.id W).toNat = 1 by omega])) rfl rfl rfl ?_
        refine th_one 6 (by kernel_rfl) ?_
        refine tw_buildSlice H rfl rfl Tryd.underlying22 info27 rfl (fun ρ k => bs1 k rfl) (by decide) (by decide) (fill_Thing_1 _ _ _) rfl rfl rfl ?_
        intro b77 w77 hb77 H
        refine ⟨(by first | exact H.get1 | exact H.get2 | exact H.get3), ?_⟩
        refine th_one 12 (by kernel_rfl) ?_
        refine tw_call (Same_c (some ⟨b77, 0, none⟩) 1 [plainR r] _ (rd_blk [plainR r] (by first | exact H.get0 | exact H.get1) rfl lenThing) (by simp) (if c = (idxR q.th.id W).toNat then B else B.map (·.add ((idxR q.th.id W).toNat * 4))) (c - (idxR q.th.id W).toNat) [gt W (idxR q.th.id W)] (rd_one (by first | exact rdr_rd H.get0 | exact rdr_rd H.get1 | exact rdr_rd H.get2 | exact rdr_rd H.get3 | exact rdr_rd H.get4 | exact rdr_rd H.get5 | exact rdr_rd H.get6 | exact rdr_rd H.get7) hc hi0 hi1) (by simp)) rfl rfl rfl rfl Tryd.call11 rfl rfl rfl ?_
        rintro _ w9 ⟨rfl, HC⟩
        have H := H.call0n HC
        refine ⟨(by first | exact H.get0 | exact H.get1 | exact H.get2 | exact H.get3), ?_⟩
        refine th_take 13 rfl (by kernel_rfl) (by kernel_rfl) (by kernel_rfl) ((by first | exact H.get0 | exact H.get1 | exact H.get2 | exact H.get3)) (fun _ hS => ov_pick (vb := undef) rfl rfl rfl rfl) rfl rfl rfl ?_
        refine th_take 14 rfl (by kernel_rfl) (by kernel_rfl) (by kernel_rfl) ((by first | exact H.get0 | exact H.get1 | exact H.get2 | exact H.get3)) (fun _ hS => ov_assign rfl rfl) rfl rfl rfl ?_
        refine th_take 15 rfl (by kernel_rfl) (by kernel_rfl) (by kernel_rfl) ((by first | exact H.get0 | exact H.get1 | exact H.get2 | exact H.get3)) (fun _ hS => ov_assign rfl rfl) rfl rfl rfl ?_
        refine th_done (by kernel_rfl) ?_
        refine hK9 _ _ (TrC.keep [7, 6, 62, 10, 9, 51, 31, 8, 5, 0, 1] ?_)
        show TrC _ _ _ _ [(7, _), (6, _), (62, _), (10, _), (9, _), (51, _), (31, _), (8, _), (5, _), (0, _), (1, _)] _ _
        refine tr_ret (post_ret2 (.inr rfl) rfl rfl rfl ?_)
        have e : doV W q = dropR q.th.id W := by unfold doV; rw [if_pos c51]
        rw [e]
        have H2 := (H.top1.upd0 (upd_rdr_of_vec H.get1 lenRThing (by decide))).drop1.drop1.drop2.drop2
        have hcc : (W.take (idxR q.th.id W).toNat ++ W.drop ((idxR q.th.id W) + 1).toNat).length ≤ c3 := vec_len H.get1
        rw [← hi3] at H2 hcc ⊢
        rw [hi2]
        exact ⟨A3, c3, congrArg (fun b => Value.tuple #[.slice A3 (dropR q.th.id W).length c3, .bool b]) (decide_eq_true rfl), hcc, L1, hL1, H2⟩
      · first | exact absurd rfl s75 | cases s75 | exact absurd s75 (by decide)
  · skip
    refine tr_seq (fun K10 hK10 => ?_)
    -- region 10: law.go:70
    refine tr_region ?_
    refine tr_val (ov_eql rfl rfl rfl) rfl rfl rfl ?_
    refine tr_val (ov_assign rfl rfl) rfl rfl rfl ?_
    refine tr_nil (hK10 _ _ (TrC.keep [85, 51, 31, 8, 7, 6, 5, 0, 1] ?_))
    show TrC _ _ _ _ [(85, _), (51, _), (31, _), (8, _), (7, _), (6, _), (5, _), (0, _), (1, _)] _ _
    first | refine tr_cond rfl (fun c85 => ?_) (fun c85 => ?_) | refine tr_condb rfl (fun c85 => ?_) (fun c85 => ?_)
    · skip
      refine tr_seq (fun K11 hK11 => ?_)
      -- region 11: law.go:71
      refine tr_region ?_
      refine tr_val (ov_move rfl rfl) rfl rfl rfl ?_
      refine tr_val (ov_fieldAddr rfl Tryd.underlying41 rfl (Tryd.sizeOf3 _) (by decide) rfl) rfl rfl rfl ?_
      first | refine tr_val (ov_load_blk H.get0 rfl (Tryd.isAgg3 _) rfl rfl rfl) rfl rfl rfl ?_ | refine tr_val (ov_load_blk H.get1 rfl (Tryd.isAgg3 _) rfl rfl rfl) rfl rfl rfl ?_ | refine tr_val (ov_load_blk H.get2 rfl (Tryd.isAgg3 _) rfl rfl rfl) rfl rfl rfl ?_ | refine tr_val (ov_load_blk H.get3 rfl (Tryd.isAgg3 _) rfl rfl rfl) rfl rfl rfl ?_ | refine tr_val (ov_load_blk H.get4 rfl (Tryd.isAgg3 _) rfl rfl rfl) rfl rfl rfl ?_ | refine tr_val (ov_load_blk H.get5 rfl (Tryd.isAgg3 _) rfl rfl rfl) rfl rfl rfl ?_ | refine tr_val (ov_load_blk H.get6 rfl (Tryd.isAgg3 _) rfl rfl rfl) rfl rfl rfl ?_ | refine tr_val (ov_load_blk H.get7 rfl (Tryd.isAgg3 _) rfl rfl rfl) rfl rfl rfl ?_
      refine tr_call (TakeR_c B c W _ (rdr_rd H.get1) (by omega) q.slot) rfl rfl rfl Tryd.call18 rfl rfl rfl ?_
      rintro _ w10 ⟨A1, c1, A2, c2, rfl, HC⟩
      have H := H.call0 HC
      refine tr_val (ov_move rfl rfl) rfl rfl rfl ?_
      refine tr_val (ov_extract rfl rfl rfl) rfl rfl rfl ?_
      refine tr_val (ov_extract rfl rfl rfl) rfl rfl rfl ?_
      refine tr_val (ov_assign rfl rfl) rfl rfl rfl ?_
      refine tr_val (ov_assign rfl rfl) rfl rfl rfl ?_
      refine tr_nil (hK11 _ _ (TrC.keep [12, 11, 85, 51, 31, 8, 7, 6, 5, 0, 1] ?_))
      show TrC _ _ _ _ [(12, _), (11, _), (85, _), (51, _), (31, _), (8, _), (7, _), (6, _), (5, _), (0, _), (1, _)] _ _
      refine tr_seq (fun K12 hK12 => ?_)
      -- region 12: law.go:72
      refine tr_region ?_
      refine tr_val (ov_move rfl rfl) rfl rfl rfl ?_
      refine tr_val (ov_fieldAddr rfl Tryd.underlying41 rfl (Tryd.sizeOf3 _) (by decide) rfl) rfl rfl rfl ?_
      first | refine tr_val (ov_load_blk H.get0 rfl (Tryd.isAgg3 _) rfl rfl rfl) rfl rfl rfl ?_ | refine tr_val (ov_load_blk H.get1 rfl (Tryd.isAgg3 _) rfl rfl rfl) rfl rfl rfl ?_ | refine tr_val (ov_load_blk H.get2 rfl (Tryd.isAgg3 _) rfl rfl rfl) rfl rfl rfl ?_ | refine tr_val (ov_load_blk H.get3 rfl (Tryd.isAgg3 _) rfl rfl rfl) rfl rfl rfl ?_ | refine tr_val (ov_load_blk H.get4 rfl (Tryd.isAgg3 _) rfl rfl rfl) rfl rfl rfl ?_ | refine tr_val (ov_load_blk H.get5 rfl (Tryd.isAgg3 _) rfl rfl rfl) rfl rfl rfl ?_ | refine tr_val (ov_load_blk H.get6 rfl (Tryd.isAgg3 _) rfl rfl rfl) rfl rfl rfl ?_ | refine tr_val (ov_load_blk H.get7 rfl (Tryd.isAgg3 _) rfl rfl rfl) rfl rfl rfl ?_
      refine tr_call (ringLook_c d W L _ hL H.get4 q.slot (by omega)) rfl rfl rfl Tryd.call24 rfl rfl rfl ?_
      rintro _ w11 ⟨A3, c3, rfl, HC⟩
      have H := H.call0r HC
      refine tr_val (ov_assign rfl rfl) rfl rfl rfl ?_
      refine tr_nil (hK12 _ _ (TrC.keep [13, 12, 11, 85, 51, 31, 8, 7, 6, 5, 0, 1] ?_))
      show TrC _ _ _ _ [(13, _), (12, _), (11, _), (85, _), (51, _), (31, _), (8, _), (7, _), (6, _), (5, _), (0, _), (1, _)] _ _
      refine tr_seq (fun K13 hK13 => ?_)
      -- region 13: law.go:73
      have hq1 := takeR_le W q.slot
      have hq2 := sortR_len (takeR W q.slot)
      have hq3 := sortT_len (slotL W q.slot)
      have hq4 := slotL_le W q.slot
      refine tr_region ?_
      refine tr_val (ov_move rfl rfl) rfl rfl rfl ?_
      refine tr_val (ov_move rfl rfl) rfl rfl rfl ?_
      refine tr_val (ov_move rfl rfl) rfl rfl rfl ?_
      refine tr_call (Same_c A3 c3 (sortT (slotL W q.slot)) _ (vec_rd H.get0 lenThing (by decide)) (by omega) A2 c2 (sortR (takeR W q.slot)) (vec_rd H.get1 lenRThing (by decide)) (by omega)) rfl rfl rfl Tryd.call11 rfl rfl rfl ?_
      rintro _ w12 ⟨rfl, HC⟩
      have H := H.call0n HC
      refine tr_val (ov_move rfl rfl) rfl rfl rfl ?_
      first | refine tr_split (t := 102) rfl (fun s102 => ?_) (fun s102 => ?_) | refine tr_splitb (t := 102) rfl (fun s102 => ?_) (fun s102 => ?_)
      · skip
        refine tr_val (ov_move rfl rfl) rfl rfl rfl ?_
        refine tr_val (ov_fieldAddr rfl Tryd.underlying41 rfl (Tryd.sizeOf3 _) (by decide) rfl) rfl rfl rfl ?_
        first | refine tr_val (ov_load_blk H.get0 rfl (Tryd.isAgg3 _) rfl rfl rfl) rfl rfl rfl ?_ | refine tr_val (ov_load_blk H.get1 rfl (Tryd.isAgg3 _) rfl rfl rfl) rfl rfl rfl ?_ | refine tr_val (ov_load_blk H.get2 rfl (Tryd.isAgg3 _) rfl rfl rfl) rfl rfl rfl ?_ | refine tr_val (ov_load_blk H.get3 rfl (Tryd.isAgg3 _) rfl rfl rfl) rfl rfl rfl ?_ | refine tr_val (ov_load_blk H.get4 rfl (Tryd.isAgg3 _) rfl rfl rfl) rfl rfl rfl ?_ | refine tr_val (ov_load_blk H.get5 rfl (Tryd.isAgg3 _) rfl rfl rfl) rfl rfl rfl ?_ | refine tr_val (ov_load_blk H.get6 rfl (Tryd.isAgg3 _) rfl rfl rfl) rfl rfl rfl ?_ | refine tr_val (ov_load_blk H.get7 rfl (Tryd.isAgg3 _) rfl rfl rfl) rfl rfl rfl ?_
        refine tr_call (ringTake_c d W L _ hL H.get5 q.slot (by omega)) rfl rfl rfl Tryd.call19 rfl rfl rfl ?_
        rintro _ w13 ⟨A4, c4, rfl, L1, hL1, HC⟩
        have H := H.top5.call1e HC
        refine tr_val (ov_move rfl rfl) rfl rfl rfl ?_
        refine tr_call (Same_c A4 c4 (sortT (slotL W q.slot)) _ (vec_rd H.get0 lenThing (by decide)) (by omega) A2 c2 (sortR (takeR W q.slot)) (vec_rd H.get3 lenRThing (by decide)) (by omega)) rfl rfl rfl Tryd.call11 rfl rfl rfl ?_
        rintro _ w14 ⟨rfl, HC⟩
        have H := H.call0n HC
        refine tr_val (ov_pick (vb := undef) rfl rfl rfl rfl) rfl rfl rfl ?_
        refine tr_val (ov_assign rfl rfl) rfl rfl rfl ?_
        refine tr_val (ov_assign rfl rfl) rfl rfl rfl ?_
        refine tr_nil (hK13 _ _ (TrC.keep [7, 6, 85, 51, 31, 8, 5, 0, 1] ?_))
        show TrC _ _ _ _ [(7, _), (6, _), (85, _), (51, _), (31, _), (8, _), (5, _), (0, _), (1, _)] _ _
        refine tr_ret (post_ret2 (.inr rfl) rfl rfl rfl ?_)
        have e : doV W q = leftR W q.slot := by unfold doV; rw [if_neg c51, if_pos c85]
        rw [e]
        have H2 := H.drop0.drop1.drop1.drop2.drop2.top1
        exact ⟨A1, c1, congrArg (fun b => Value.tuple #[.slice A1 (leftR W q.slot).length c1, .bool b]) (decide_eq_true (takeR_plain W q.slot).symm), vec_len H2.get0, L1, hL1, H2.upd0 (upd_rdr_of_vec H2.get0 lenRThing (by decide))⟩
      · exact absurd (takeR_plain W q.slot).symm s102
    · skip
      refine tr_seq (fun K14 hK14 => ?_)
      -- region 14: law.go:74
      refine tr_region ?_
      refine tr_val (ov_eql rfl rfl rfl) rfl rfl rfl ?_
      refine tr_val (ov_assign rfl rfl) rfl rfl rfl ?_
      refine tr_nil (hK14 _ _ (TrC.keep [110, 85, 51, 31, 8, 7, 6, 5, 0, 1] ?_))
      show TrC _ _ _ _ [(110, _), (85, _), (51, _), (31, _), (8, _), (7, _), (6, _), (5, _), (0, _), (1, _)] _ _
      first | refine tr_cond rfl (fun c110 => ?_) (fun c110 => ?_) | refine tr_condb rfl (fun c110 => ?_) (fun c110 => ?_)
      · skip
        refine tr_seq (fun K15 hK15 => ?_)
        -- region 15: law.go:75
        refine tr_region ?_
        refine tr_val (ov_move rfl rfl) rfl rfl rfl ?_
        refine tr_val (ov_fieldAddr rfl Tryd.underlying41 rfl (Tryd.sizeOf3 _) (by decide) rfl) rfl rfl rfl ?_
        first | refine tr_val (ov_load_blk H.get0 rfl (Tryd.isAgg3 _) rfl rfl rfl) rfl rfl rfl ?_ | refine tr_val (ov_load_blk H.get1 rfl (Tryd.isAgg3 _) rfl rfl rfl) rfl rfl rfl ?_ | refine tr_val (ov_load_blk H.get2 rfl (Tryd.isAgg3 _) rfl rfl rfl) rfl rfl rfl ?_ | refine tr_val (ov_load_blk H.get3 rfl (Tryd.isAgg3 _) rfl rfl rfl) rfl rfl rfl ?_ | refine tr_val (ov_load_blk H.get4 rfl (Tryd.isAgg3 _) rfl rfl rfl) rfl rfl rfl ?_ | refine tr_val (ov_load_blk H.get5 rfl (Tryd.isAgg3 _) rfl rfl rfl) rfl rfl rfl ?_ | refine tr_val (ov_load_blk H.get6 rfl (Tryd.isAgg3 _) rfl rfl rfl) rfl rfl rfl ?_ | refine tr_val (ov_load_blk H.get7 rfl (Tryd.isAgg3 _) rfl rfl rfl) rfl rfl rfl ?_
        refine tr_call (ringNext_c d W L _ hL H.get2 q.slot (H.resF hT hT')) rfl rfl rfl Tryd.call22 rfl rfl rfl ?_
        rintro _ w15 ⟨rfl, HC⟩
        have H := H.call0n HC
        rw [nextT_eq]
        refine tr_val (ov_move rfl rfl) rfl rfl rfl ?_
        refine tr_val (ov_extract rfl rfl rfl) rfl rfl rfl ?_
        refine tr_val (ov_extract rfl rfl rfl) rfl rfl rfl ?_
        refine tr_val (ov_extract rfl rfl rfl) rfl rfl rfl ?_
        refine tr_val (ov_assign rfl rfl) rfl rfl rfl ?_
        refine tr_val (ov_assign rfl rfl) rfl rfl rfl ?_
        refine tr_val (ov_assign rfl rfl) rfl rfl rfl ?_
        refine tr_nil (hK15 _ _ (TrC.keep [16, 15, 14, 110, 85, 51, 31, 8, 7, 6, 5, 0, 1] ?_))
        show TrC _ _ _ _ [(16, _), (15, _), (14, _), (110, _), (85, _), (51, _), (31, _), (8, _), (7, _), (6, _), (5, _), (0, _), (1, _)] _ _
        refine tr_seq (fun K16 hK16 => ?_)
        -- region 16: law.go:76
        refine tr_region ?_
        refine tr_val (ov_move rfl rfl) rfl rfl rfl ?_
        refine tr_val (ov_fieldAddr rfl Tryd.underlying41 rfl (Tryd.sizeOf3 _) (by decide) rfl) rfl rfl rfl ?_
        first | refine tr_val (ov_load_blk H.get0 rfl (Tryd.isAgg3 _) rfl rfl rfl) rfl rfl rfl ?_ | refine tr_val (ov_load_blk H.get1 rfl (Tryd.isAgg3 _) rfl rfl rfl) rfl rfl rfl ?_ | refine tr_val (ov_load_blk H.get2 rfl (Tryd.isAgg3 _) rfl rfl rfl) rfl rfl rfl ?_ | refine tr_val (ov_load_blk H.get3 rfl (Tryd.isAgg3 _) rfl rfl rfl) rfl rfl rfl ?_ | refine tr_val (ov_load_blk H.get4 rfl (Tryd.isAgg3 _) rfl rfl rfl) rfl rfl rfl ?_ | refine tr_val (ov_load_blk H.get5 rfl (Tryd.isAgg3 _) rfl rfl rfl) rfl rfl rfl ?_ | refine tr_val (ov_load_blk H.get6 rfl (Tryd.isAgg3 _) rfl rfl rfl) rfl rfl rfl ?_ | refine tr_val (ov_load_blk H.get7 rfl (Tryd.isAgg3 _) rfl rfl rfl) rfl rfl rfl ?_
        refine tr_call (NextR_c B c W _ (rdr_rd H.get1) (by omega) q.slot) rfl rfl rfl Tryd.call29 rfl rfl rfl ?_
        rintro _ w16 ⟨rfl, HC⟩
        have H := H.call0n HC
        rw [nextT_eq]
        refine tr_val (ov_move rfl rfl) rfl rfl rfl ?_
        refine tr_val (ov_extract rfl rfl rfl) rfl rfl rfl ?_
        refine tr_val (ov_extract rfl rfl rfl) rfl rfl rfl ?_
        refine tr_val (ov_extract rfl rfl rfl) rfl rfl rfl ?_
        refine tr_val (ov_assign rfl rfl) rfl rfl rfl ?_
        refine tr_val (ov_assign rfl rfl) rfl rfl rfl ?_
        refine tr_val (ov_assign rfl rfl) rfl rfl rfl ?_
        refine tr_nil (hK16 _ _ (TrC.keep [19, 18, 17, 16, 15, 14, 110, 85, 51, 31, 8, 7, 6, 5, 0, 1] ?_))
        show TrC _ _ _ _ [(19, _), (18, _), (17, _), (16, _), (15, _), (14, _), (110, _), (85, _), (51, _), (31, _), (8, _), (7, _), (6, _), (5, _), (0, _), (1, _)] _ _
        refine tr_seq (fun K17 hK17 => ?_)
        -- region 17: law.go:77
        refine tr_region ?_
        refine tr_val (ov_move rfl rfl) rfl rfl rfl ?_
        refine tr_val (ov_move rfl rfl) rfl rfl rfl ?_
        refine tr_val (ov_move rfl rfl) rfl rfl rfl ?_
        refine tr_val (ov_eql rfl rfl rfl) rfl rfl rfl ?_
        refine tr_val (ov_move rfl rfl) rfl rfl rfl ?_
        first | refine tr_split (t := 132) rfl (fun s132 => ?_) (fun s132 => ?_) | refine tr_splitb (t := 132) rfl (fun s132 => ?_) (fun s132 => ?_)
        · skip
          refine tr_val (ov_move rfl rfl) rfl rfl rfl ?_
          refine tr_val (ov_move rfl rfl) rfl rfl rfl ?_
          refine tr_val (ov_eql rfl rfl rfl) rfl rfl rfl ?_
          refine tr_val (ov_pick (vb := undef) rfl rfl rfl rfl) rfl rfl rfl ?_
          refine tr_val (ov_move rfl rfl) rfl rfl rfl ?_
          first | refine tr_split (t := 137) rfl (fun s137 => ?_) (fun s137 => ?_) | refine tr_splitb (t := 137) rfl (fun s137 => ?_) (fun s137 => ?_)
          · skip
            refine tr_val (ov_move rfl rfl) rfl rfl rfl ?_
            refine tr_val (ov_move rfl rfl) rfl rfl rfl ?_
            refine tr_val (ov_eqlb rfl Tryd.underlying4 rfl rfl) rfl rfl rfl ?_
            refine tr_val (ov_pick (vb := undef) rfl rfl rfl rfl) rfl rfl rfl ?_
            refine tr_val (ov_assign rfl rfl) rfl rfl rfl ?_
            refine tr_val (ov_assign rfl rfl) rfl rfl rfl ?_
            refine tr_nil (hK17 _ _ (TrC.keep [7, 6, 110, 85, 51, 31, 8, 5, 0, 1] ?_))
            show TrC _ _ _ _ [(7, _), (6, _), (110, _), (85, _), (51, _), (31, _), (8, _), (5, _), (0, _), (1, _)] _ _
            refine tr_ret (post_ret2 (.inr rfl) rfl rfl rfl ?_)
            have e : doV W q = W := by unfold doV; rw [if_neg c51, if_neg c85, if_pos c110]
            rw [e]
            exact ⟨B, c, congrArg (fun b => Value.tuple #[.slice B W.length c, .bool b]) (by simp), hc, L, hL, H.drop0⟩
          · first | exact absurd rfl s137 | cases s137 | exact absurd s137 (by decide)
        · first | exact absurd rfl s132 | cases s132 | exact absurd s132 (by decide)
      · skip
        refine tr_seq (fun K18 hK18 => ?_)
        -- region 18: law.go:78
        refine tr_region ?_
        refine tr_val (ov_eql rfl rfl rfl) rfl rfl rfl ?_
        refine tr_val (ov_assign rfl rfl) rfl rfl rfl ?_
        refine tr_nil (hK18 _ _ (TrC.keep [142, 110, 85, 51, 31, 8, 7, 6, 5, 0, 1] ?_))
        show TrC _ _ _ _ [(142, _), (110, _), (85, _), (51, _), (31, _), (8, _), (7, _), (6, _), (5, _), (0, _), (1, _)] _ _
        first | refine tr_cond rfl (fun c142 => ?_) (fun c142 => ?_) | refine tr_condb rfl (fun c142 => ?_) (fun c142 => ?_)
        · skip
          refine tr_seq (fun K19 hK19 => ?_)
          -- region 19: law.go:79
          refine tr_region ?_
          refine tr_val (ov_move rfl rfl) rfl rfl rfl ?_
          refine tr_val (ov_fieldAddr rfl Tryd.underlying41 rfl (Tryd.sizeOf27 _) (by decide) rfl) rfl rfl rfl ?_
          refine tr_val (ov_fieldAddr rfl Tryd.underlying27 rfl (Tryd.sizeOf25 _) (by decide) rfl) rfl rfl rfl ?_
          first | refine tr_val (ov_load_blk H.get0 rfl (Tryd.isAgg25 _) rfl rfl rfl) rfl rfl rfl ?_ | refine tr_val (ov_load_blk H.get1 rfl (Tryd.isAgg25 _) rfl rfl rfl) rfl rfl rfl ?_ | refine tr_val (ov_load_blk H.get2 rfl (Tryd.isAgg25 _) rfl rfl rfl) rfl rfl rfl ?_ | refine tr_val (ov_load_blk H.get3 rfl (Tryd.isAgg25 _) rfl rfl rfl) rfl rfl rfl ?_ | refine tr_val (ov_load_blk H.get4 rfl (Tryd.isAgg25 _) rfl rfl rfl) rfl rfl rfl ?_ | refine tr_val (ov_load_blk H.get5 rfl (Tryd.isAgg25 _) rfl rfl rfl) rfl rfl rfl ?_ | refine tr_val (ov_load_blk H.get6 rfl (Tryd.isAgg25 _) rfl rfl rfl) rfl rfl rfl ?_ | refine tr_val (ov_load_blk H.get7 rfl (Tryd.isAgg25 _) rfl rfl rfl) rfl rfl rfl ?_
          refine tr_call (ringGet_c d W L _ hL H.get2 q.th.id (by omega)) rfl rfl rfl Tryd.call21 rfl rfl rfl ?_
          rintro _ w17 ⟨rfl, HC⟩
          have H := H.call0n HC
          refine tr_val (ov_move rfl rfl) rfl rfl rfl ?_
          refine tr_val (ov_extract rfl rfl rfl) rfl rfl rfl ?_
          refine tr_val (ov_extract rfl rfl rfl) rfl rfl rfl ?_
          refine tr_val (ov_extract rfl rfl rfl) rfl rfl rfl ?_
          refine tr_alloc H rfl (Tryd.zeroValue27 _) rfl rfl rfl rfl ?_
          intro b20 w18 hb20 H
          first | (refine tr_storeW H.get0 rfl (Tryd.sizeOf27 _) rfl rfl rfl rfl rfl rfl rfl rfl ?_; intro w19 U; have H := H.upd0 U; clear U) | (refine tr_storeW H.get1 rfl (Tryd.sizeOf27 _) rfl rfl rfl rfl rfl rfl rfl rfl ?_; intro w19 U; have H := H.upd1 U; clear U) | (refine tr_storeW H.get2 rfl (Tryd.sizeOf27 _) rfl rfl rfl rfl rfl rfl rfl rfl ?_; intro w19 U; have H := H.upd2 U; clear U) | (refine tr_storeW H.get3 rfl (Tryd.sizeOf27 _) rfl rfl rfl rfl rfl rfl rfl rfl ?_; intro w19 U; have H := H.upd3 U; clear U) | (refine tr_storeW H.get4 rfl (Tryd.sizeOf27 _) rfl rfl rfl rfl rfl rfl rfl rfl ?_; intro w19 U; have H := H.upd4 U; clear U) | (refine tr_storeW H.get5 rfl (Tryd.sizeOf27 _) rfl rfl rfl rfl rfl rfl rfl rfl ?_; intro w19 U; have H := H.upd5 U; clear U) | (refine tr_storeW H.get6 rfl (Tryd.sizeOf27 _) rfl rfl rfl rfl rfl rfl rfl rfl ?_; intro w19 U; have H := H.upd6 U; clear U) | (refine tr_storeW H.get7 rfl (Tryd.sizeOf27 _) rfl rfl rfl rfl rfl rfl rfl rfl ?_; intro w19 U; have H := H.upd7 U; clear U)
          refine tr_val (ov_assign rfl rfl) rfl rfl rfl ?_
          refine tr_val (ov_assign rfl rfl) rfl rfl rfl ?_
          refine tr_nil (hK19 _ _ (TrC.keep [22, 21, 20, 142, 110, 85, 51, 31, 8, 7, 6, 5, 0, 1] ?_))
          show TrC _ _ _ _ [(22, _), (21, _), (20, _), (142, _), (110, _), (85, _), (51, _), (31, _), (8, _), (7, _), (6, _), (5, _), (0, _), (1, _)] _ _
          refine tr_seq (fun K20 hK20 => ?_)
          refine tr_seq (fun K21 hK21 => ?_)
          -- region 20: law.go:80
          refine tr_region ?_
          refine tr_val (ov_move rfl rfl) rfl rfl rfl ?_
          refine tr_val (ov_lss rfl rfl rfl) rfl rfl rfl ?_
          refine tr_nil (hK21 _ _ (TrC.keep [154, 22, 21, 20, 142, 110, 85, 51, 31, 8, 7, 6, 5, 0, 1] ?_))
          show TrC _ _ _ _ [(154, _), (22, _), (21, _), (20, _), (142, _), (110, _), (85, _), (51, _), (31, _), (8, _), (7, _), (6, _), (5, _), (0, _), (1, _)] _ _
          first | refine tr_cond rfl (fun c154 => ?_) (fun c154 => ?_) | refine tr_condb rfl (fun c154 => ?_) (fun c154 => ?_)
          · skip
            refine tr_seq (fun K22 hK22 => ?_)
            -- region 21: law.go:81
            have hn := idxR_neg c154
            rw [hn] at H ⊢
            refine tr_quiet mixed (by kernel_rfl) H ?_
            refine tq_val (fun _ H => ov_move rfl rfl) rfl rfl rfl ?_
            refine tq_val (fun _ H => ov_move rfl rfl) rfl rfl rfl ?_
            first | refine tq_val (fun _ H => ov_not rfl rfl) rfl rfl rfl ?_ | refine tq_val (fun _ H => ov_notb rfl rfl) rfl rfl rfl ?_
            refine tq_val (fun _ H => ov_move rfl rfl) rfl rfl rfl ?_
            first | refine tq_split (t := 158) rfl (fun s158 => ?_) (fun s158 => ?_) | refine tq_splitb (t := 158) rfl (fun s158 => ?_) (fun s158 => ?_)
            · skip
              refine tq_val (fun _ H => ov_move rfl rfl) rfl rfl rfl ?_
              refine tq_val (fun _ H => ov_eql rfl rfl rfl) rfl rfl rfl ?_
              refine tq_val (fun _ H => ov_pick (vb := undef) rfl rfl rfl rfl) rfl rfl rfl ?_
              refine tq_val (fun _ H => ov_move rfl rfl) rfl rfl rfl ?_
              first | refine tq_split (t := 162) rfl (fun s162 => ?_) (fun s162 => ?_) | refine tq_splitb (t := 162) rfl (fun s162 => ?_) (fun s162 => ?_)
              · skip
                first | refine tq_val (fun _ H => ov_load_blkN H.get0 rfl (Tryd.isAgg27 _) (Tryd.sizeOf27 _) rfl rfl rfl) rfl rfl rfl ?_ | refine tq_val (fun _ H => ov_load_blkN H.get1 rfl (Tryd.isAgg27 _) (Tryd.sizeOf27 _) rfl rfl rfl) rfl rfl rfl ?_ | refine tq_val (fun _ H => ov_load_blkN H.get2 rfl (Tryd.isAgg27 _) (Tryd.sizeOf27 _) rfl rfl rfl) rfl rfl rfl ?_ | refine tq_val (fun _ H => ov_load_blkN H.get3 rfl (Tryd.isAgg27 _) (Tryd.sizeOf27 _) rfl rfl rfl) rfl rfl rfl ?_ | refine tq_val (fun _ H => ov_load_blkN H.get4 rfl (Tryd.isAgg27 _) (Tryd.sizeOf27 _) rfl rfl rfl) rfl rfl rfl ?_ | refine tq_val (fun _ H => ov_load_blkN H.get5 rfl (Tryd.isAgg27 _) (Tryd.sizeOf27 _) rfl rfl rfl) rfl rfl rfl ?_ | refine tq_val (fun _ H => ov_load_blkN H.get6 rfl (Tryd.isAgg27 _) (Tryd.sizeOf27 _) rfl rfl rfl) rfl rfl rfl ?_ | refine tq_val (fun _ H => ov_load_blkN H.get7 rfl (Tryd.isAgg27 _) (Tryd.sizeOf27 _) rfl rfl rfl) rfl rfl rfl ?_
                refine tq_val (fun _ H => ov_build rfl (fun ρ k => bs0 k) (bld27 _)) rfl rfl rfl ?_
                refine tq_val (fun _ H => ov_eqTh (s := plainR (rOr none)) (t := ⟨0, 0, 0⟩) rfl rfl rfl) rfl rfl rfl ?_
                refine tq_val (fun _ H => ov_pick (vb := undef) rfl rfl rfl rfl) rfl rfl rfl ?_
                refine tq_val (fun _ H => ov_assign rfl rfl) rfl rfl rfl ?_
                refine tq_val (fun _ H => ov_assign rfl rfl) rfl rfl rfl ?_
                refine tq_nil ?_
                intro w20 H
                refine hK22 _ _ (TrC.keep [7, 6, 154, 22, 21, 20, 142, 110, 85, 51, 31, 8, 5, 0, 1] ?_)
                show TrC _ _ _ _ [(7, _), (6, _), (154, _), (22, _), (21, _), (20, _), (142, _), (110, _), (85, _), (51, _), (31, _), (8, _), (5, _), (0, _), (1, _)] _ _
                refine tr_ret (post_ret2 (.inr rfl) rfl rfl rfl ?_)
                have e : doV W q = W := by unfold doV; rw [if_neg c51, if_neg c85, if_neg c110, if_pos c142]
                rw [e]
                exact ⟨B, c, congrArg (fun b => Value.tuple #[.slice B W.length c, .bool b]) (decide_eq_true rfl), hc, L, hL, H.drop0.drop0⟩
              · first | exact absurd rfl s162 | cases s162 | exact absurd s162 (by decide)
            · first | exact absurd rfl s158 | cases s158 | exact absurd s158 (by decide)
          · skip
            refine tr_skip (hK20 _ _ (TrC.keep [154, 22, 21, 20, 142, 110, 85, 51, 31, 8, 7, 6, 5, 0, 1] ?_))
            show TrC _ _ _ _ [(154, _), (22, _), (21, _), (20, _), (142, _), (110, _), (85, _), (51, _), (31, _), (8, _), (7, _), (6, _), (5, _), (0, _), (1, _)] _ _
            refine tr_seq (fun K23 hK23 => ?_)
            -- region 22: law.go:83
            obtain ⟨r, hf⟩ := idxR_pos c154
            obtain ⟨hi0, hi1, hi2, hi3⟩ := idxR_some hf
            rw [hf] at H ⊢
            refine tr_held (fun w' => (blk b20 27 [.int .u64 r.id, .int .u64 r.gen, .int .i64 r.due]).holds w' ∧ (rdr B 4 (W.map encRThing)).holds w') mixed rfl H ?_
            intro w21 H
            refine th_take 0 rfl (by kernel_rfl) (by kernel_rfl) (by kernel_rfl) ((by first | exact ⟨H.get0, H.get2⟩ | exact ⟨H.get1, H.get3⟩)) (fun _ hS => ov_move rfl rfl) rfl rfl rfl ?_
            refine th_take 1 rfl (by kernel_rfl) (by kernel_rfl) (by kernel_rfl) ((by first | exact ⟨H.get0, H.get2⟩ | exact ⟨H.get1, H.get3⟩)) (fun _ hS => ov_move rfl rfl) rfl rfl rfl ?_
            refine th_take 2 rfl (by kernel_rfl) (by kernel_rfl) (by kernel_rfl) ((by first | exact ⟨H.get0, H.get2⟩ | exact ⟨H.get1, H.get3⟩)) (fun _ hS => ov_move rfl rfl) rfl rfl rfl ?_
            first | refine th_split (t := 169) rfl (fun s169 => ?_) (fun s169 => ?_) | refine th_splitb (t := 169) rfl (fun s169 => ?_) (fun s169 => ?_)
            · skip
              refine th_take 3 rfl (by kernel_rfl) (by kernel_rfl) (by kernel_rfl) ((by first | exact ⟨H.get0, H.get2⟩ | exact ⟨H.get1, H.get3⟩)) (fun _ hS => ov_move rfl rfl) rfl rfl rfl ?_
              refine th_take 4 rfl (by kernel_rfl) (by kernel_rfl) (by kernel_rfl) ((by first | exact ⟨H.get0, H.get2⟩ | exact ⟨H.get1, H.get3⟩)) (fun _ hS => ov_move rfl rfl) rfl rfl rfl ?_
              refine th_take 5 rfl (by kernel_rfl) (by kernel_rfl) (by kernel_rfl) ((by first | exact ⟨H.get0, H.get2⟩ | exact ⟨H.get1, H.get3⟩)) (fun _ hS => ov_move rfl rfl) rfl rfl rfl ?_
              refine th_take 6 rfl (by kernel_rfl) (by kernel_rfl) (by kernel_rfl) ((by first | exact ⟨H.get0, H.get2⟩ | exact ⟨H.get1, H.get3⟩)) (fun _ hS => ov_indexAddrR (rdr_rd hS.2) rfl Tryd.underlying24 (Tryd.sizeOf29 _) rfl rfl hi0 hi1) rfl rfl rfl ?_
              refine th_take 7 rfl (by kernel_rfl) (by kernel_rfl) (by kernel_rfl) ((by first | exact ⟨H.get0, H.get2⟩ | exact ⟨H.get1, H.get3⟩)) (fun _ hS => ov_fieldAddr rfl Tryd.underlying29 rfl (Tryd.sizeOf3 _) (by decide) rfl) rfl rfl rfl ?_
              refine th_take 8 rfl (by kernel_rfl) (by kernel_rfl) (by kernel_rfl) ((by first | exact ⟨H.get0, H.get2⟩ | exact ⟨H.get1, H.get3⟩)) (fun _ hS => ld_RThing_3 (rdr_rd hS.2) rfl (Tryd.isAgg3 _) rfl hi0 hi1) rfl rfl rfl ?_
              refine th_take 9 rfl (by kernel_rfl) (by kernel_rfl) (by kernel_rfl) ((by first | exact ⟨H.get0, H.get2⟩ | exact ⟨H.get1, H.get3⟩)) (fun _ hS => ov_eql rfl rfl rfl) rfl rfl rfl ?_
              refine th_take 10 rfl (by kernel_rfl) (by kernel_rfl) (by kernel_rfl) ((by first | exact ⟨H.get0, H.get2⟩ | exact ⟨H.get1, H.get3⟩)) (fun _ hS => ov_pick (vb := undef) rfl rfl rfl rfl) rfl rfl rfl ?_
              refine th_take 11 rfl (by kernel_rfl) (by kernel_rfl) (by kernel_rfl) ((by first | exact ⟨H.get0, H.get2⟩ | exact ⟨H.get1, H.get3⟩)) (fun _ hS => ov_move rfl rfl) rfl rfl rfl ?_
              first | refine th_split (t := 178) rfl (fun s178 => ?_) (fun s178 => ?_) | refine th_splitb (t := 178) rfl (fun s178 => ?_) (fun s178 => ?_)
              · skip
                first | refine th_take 12 rfl (by kernel_rfl) (by kernel_rfl) (by kernel_rfl) ((by first | exact ⟨H.get0, H.get2⟩ | exact ⟨H.get1, H.get3⟩)) (fun _ hS => ov_load_blkN hS rfl (Tryd.isAgg27 _) (Tryd.sizeOf27 _) rfl rfl rfl) rfl rfl rfl ?_ | refine th_take 12 rfl (by kernel_rfl) (by kernel_rfl) (by kernel_rfl) ((by first | exact ⟨H.get0, H.get2⟩ | exact ⟨H.get1, H.get3⟩)) (fun _ hS => ov_load_blkN hS.1 rfl (Tryd.isAgg27 _) (Tryd.sizeOf27 _) rfl rfl rfl) rfl rfl rfl ?_ | refine th_take 12 rfl (by kernel_rfl) (by kernel_rfl) (by kernel_rfl) ((by first | exact ⟨H.get0, H.get2⟩ | exact ⟨H.get1, H.get3⟩)) (fun _ hS => ov_load_blkN hS.2.1 rfl (Tryd.isAgg27 _) (Tryd.sizeOf27 _) rfl rfl rfl) rfl rfl rfl ?_ | refine th_take 12 rfl (by kernel_rfl) (by kernel_rfl) (by kernel_rfl) ((by first | exact ⟨H.get0, H.get2⟩ | exact ⟨H.get1, H.get3⟩)) (fun _ hS => ov_load_blkN hS.2.2.1 rfl (Tryd.isAgg27 _) (Tryd.sizeOf27 _) rfl rfl rfl) rfl rfl rfl ?_ | refine th_take 12 rfl (by kernel_rfl) (by kernel_rfl) (by kernel_rfl) ((by first | exact ⟨H.get0, H.get2⟩ | exact ⟨H.get1, H.get3⟩)) (fun _ hS => ov_load_blkN hS.2.2.2.1 rfl (Tryd.isAgg27 _) (Tryd.sizeOf27 _) rfl rfl rfl) rfl rfl rfl ?_ | refine th_take 12 rfl (by kernel_rfl) (by kernel_rfl) (by kernel_rfl) ((by first | exact ⟨H.get0, H.get2⟩ | exact ⟨H.get1, H.get3⟩)) (fun _ hS => ov_load_blkN hS.2.2.2.2.1 rfl (Tryd.isAgg27 _) (Tryd.sizeOf27 _) rfl rfl rfl) rfl rfl rfl ?_ | refine th_take 12 rfl (by kernel_rfl) (by kernel_rfl) (by kernel_rfl) ((by first | exact ⟨H.get0, H.get2⟩ | exact ⟨H.get1, H.get3⟩)) (fun _ hS => ov_load_blkN hS.2 rfl (Tryd.isAgg27 _) (Tryd.sizeOf27 _) rfl rfl rfl) rfl rfl rfl ?_ | refine th_take 12 rfl (by kernel_rfl) (by kernel_rfl) (by kernel_rfl) ((by first | exact ⟨H.get0, H.get2⟩ | exact ⟨H.get1, H.get3⟩)) (fun _ hS => ov_load_blkN hS.2.2 rfl (Tryd.isAgg27 _) (Tryd.sizeOf27 _) rfl rfl rfl) rfl rfl rfl ?_ | refine th_take 12 rfl (by kernel_rfl) (by kernel_rfl) (by kernel_rfl) ((by first | exact ⟨H.get0, H.get2⟩ | exact ⟨H.get1, H.get3⟩)) (fun _ hS => ov_load_blkN hS.2.2.2 rfl (Tryd.isAgg27 _) (Tryd.sizeOf27 _) rfl rfl rfl) rfl rfl rfl ?_ | refine th_take 12 rfl (by kernel_rfl) (by kernel_rfl) (by kernel_rfl) ((by first | exact ⟨H.get0, H.get2⟩ | exact ⟨H.get1, H.get3⟩)) (fun _ hS => ov_load_blkN hS.2.2.2.2 rfl (Tryd.isAgg27 _) (Tryd.sizeOf27 _) rfl rfl rfl) rfl rfl rfl ?_
                refine th_take 14 rfl (by kernel_rfl) (by kernel_rfl) (by kernel_rfl) ((by first | exact ⟨H.get0, H.get2⟩ | exact ⟨H.get1, H.get3⟩)) (fun _ hS => ov_move rfl rfl) rfl rfl rfl ?_
                refine th_take 15 rfl (by kernel_rfl) (by kernel_rfl) (by kernel_rfl) ((by first | exact ⟨H.get0, H.get2⟩ | exact ⟨H.get1, H.get3⟩)) (fun _ hS => ov_move rfl rfl) rfl rfl rfl ?_
                refine th_take 16 rfl (by kernel_rfl) (by kernel_rfl) (by kernel_rfl) ((by first | exact ⟨H.get0, H.get2⟩ | exact ⟨H.get1, H.get3⟩)) (fun _ hS => ov_move rfl rfl) rfl rfl rfl ?_
                refine th_take 17 rfl (by kernel_rfl) (by kernel_rfl) (by kernel_rfl) ((by first | exact ⟨H.get0, H.get2⟩ | exact ⟨H.get1, H.get3⟩)) (fun _ hS => ov_add rfl rfl rfl (w64 (by omega))) rfl rfl rfl ?_
                refine th_take 18 rfl (by kernel_rfl) (by kernel_rfl) (by kernel_rfl) ((by first | exact ⟨H.get0, H.get2⟩ | exact ⟨H.get1, H.get3⟩)) (fun _ hS => ov_eq (ov_slice rfl Tryd.underlying24 (Tryd.sizeOf29 _) rfl rfl rfl (by omega) (by omega) (by omega)) (show _ = Value.slice (if c = (idxR q.th.id W).toNat then B else B.map (·.add ((idxR q.th.id W).toNat * 4))) 1 (c - (idxR q.th.id W).toNat) by rw [show ((idxR q.th.id W) + 1).toNat - (idxR q.th.id W).toNat = 1 by omega])) rfl rfl rfl ?_
                refine th_one 13 (by kernel_rfl) ?_
                refine tw_buildSlice H rfl rfl Tryd.underlying22 info27 rfl (fun ρ k => bs1 k rfl) (by decide) (by decide) (fill_Thing_1 _ _ _) rfl rfl rfl ?_
                intro b77 w77 hb77 H
                refine ⟨⟨H.get1, H.get3⟩, ?_⟩
                refine th_one 19 (by kernel_rfl) ?_
                refine tw_call (Same_c (some ⟨b77, 0, none⟩) 1 [plainR r] _ (rd_blk [plainR r] (by first | exact H.get0 | exact H.get1) rfl lenThing) (by simp) (if c = (idxR q.th.id W).toNat then B else B.map (·.add ((idxR q.th.id W).toNat * 4))) (c - (idxR q.th.id W).toNat) [gt W (idxR q.th.id W)] (rd_one (by first | exact rdr_rd H.get0 | exact rdr_rd H.get1 | exact rdr_rd H.get2 | exact rdr_rd H.get3 | exact rdr_rd H.get4 | exact rdr_rd H.get5 | exact rdr_rd H.get6 | exact rdr_rd H.get7) hc hi0 hi1) (by simp)) rfl rfl rfl rfl Tryd.call11 rfl rfl rfl ?_
                rintro _ w22 ⟨rfl, HC⟩
                have H := H.call0n HC
                refine ⟨(by first | exact ⟨H.get0, H.get2⟩ | exact ⟨H.get1, H.get3⟩), ?_⟩
                refine th_take 20 rfl (by kernel_rfl) (by kernel_rfl) (by kernel_rfl) ((by first | exact ⟨H.get0, H.get2⟩ | exact ⟨H.get1, H.get3⟩)) (fun _ hS => ov_pick (vb := undef) rfl rfl rfl rfl) rfl rfl rfl ?_
                refine th_take 21 rfl (by kernel_rfl) (by kernel_rfl) (by kernel_rfl) ((by first | exact ⟨H.get0, H.get2⟩ | exact ⟨H.get1, H.get3⟩)) (fun _ hS => ov_assign rfl rfl) rfl rfl rfl ?_
                refine th_take 22 rfl (by kernel_rfl) (by kernel_rfl) (by kernel_rfl) ((by first | exact ⟨H.get0, H.get2⟩ | exact ⟨H.get1, H.get3⟩)) (fun _ hS => ov_assign rfl rfl) rfl rfl rfl ?_
                refine th_done (by kernel_rfl) ?_
                refine hK23 _ _ (TrC.keep [7, 6, 154, 22, 21, 20, 142, 110, 85, 51, 31, 8, 5, 0, 1] ?_)
                show TrC _ _ _ _ [(7, _), (6, _), (154, _), (22, _), (21, _), (20, _), (142, _), (110, _), (85, _), (51, _), (31, _), (8, _), (5, _), (0, _), (1, _)] _ _
                refine tr_ret (post_ret2 (.inr rfl) rfl rfl rfl ?_)
                have e : doV W q = W := by unfold doV; rw [if_neg c51, if_neg c85, if_neg c110, if_pos c142]
                rw [e]
                rw [hi2]
                exact ⟨B, c, congrArg (fun b => Value.tuple #[.slice B W.length c, .bool b]) (decide_eq_true rfl), hc, L, hL, H.drop0.drop0.drop0⟩
              · exact absurd (by rw [hi2]; rfl) s178
            · first | exact absurd rfl s169 | cases s169 | exact absurd s169 (by decide)
        · skip
          refine tr_seq (fun K24 hK24 => ?_)
          -- region 3: law.go:85
          refine tr_held (fun w' => (blk b1 41 [.int .i64 q.kind, .int .i64 q.slot, .int .u64 q.th.id, .int .u64 q.th.gen, .int .i64 q.th.due]).holds w') mixed rfl H ?_
          intro w23 H
          refine th_take 0 rfl (by kernel_rfl) (by kernel_rfl) (by kernel_rfl) ((by first | exact H.get0 | exact H.get1)) (fun _ hS => ov_move rfl rfl) rfl rfl rfl ?_
          refine th_take 1 rfl (by kernel_rfl) (by kernel_rfl) (by kernel_rfl) ((by first | exact H.get0 | exact H.get1)) (fun _ hS => ov_fieldAddr rfl Tryd.underlying41 rfl (Tryd.sizeOf3 _) (by decide) rfl) rfl rfl rfl ?_
          first | refine th_take 2 rfl (by kernel_rfl) (by kernel_rfl) (by kernel_rfl) ((by first | exact H.get0 | exact H.get1)) (fun _ hS => ov_load_blk hS rfl (Tryd.isAgg3 _) rfl rfl rfl) rfl rfl rfl ?_ | refine th_take 2 rfl (by kernel_rfl) (by kernel_rfl) (by kernel_rfl) ((by first | exact H.get0 | exact H.get1)) (fun _ hS => ov_load_blk hS.1 rfl (Tryd.isAgg3 _) rfl rfl rfl) rfl rfl rfl ?_ | refine th_take 2 rfl (by kernel_rfl) (by kernel_rfl) (by kernel_rfl) ((by first | exact H.get0 | exact H.get1)) (fun _ hS => ov_load_blk hS.2.1 rfl (Tryd.isAgg3 _) rfl rfl rfl) rfl rfl rfl ?_ | refine th_take 2 rfl (by kernel_rfl) (by kernel_rfl) (by kernel_rfl) ((by first | exact H.get0 | exact H.get1)) (fun _ hS => ov_load_blk hS.2.2.1 rfl (Tryd.isAgg3 _) rfl rfl rfl) rfl rfl rfl ?_ | refine th_take 2 rfl (by kernel_rfl) (by kernel_rfl) (by kernel_rfl) ((by first | exact H.get0 | exact H.get1)) (fun _ hS => ov_load_blk hS.2.2.2.1 rfl (Tryd.isAgg3 _) rfl rfl rfl) rfl rfl rfl ?_ | refine th_take 2 rfl (by kernel_rfl) (by kernel_rfl) (by kernel_rfl) ((by first | exact H.get0 | exact H.get1)) (fun _ hS => ov_load_blk hS.2.2.2.2.1 rfl (Tryd.isAgg3 _) rfl rfl rfl) rfl rfl rfl ?_ | refine th_take 2 rfl (by kernel_rfl) (by kernel_rfl) (by kernel_rfl) ((by first | exact H.get0 | exact H.get1)) (fun _ hS => ov_load_blk hS.2 rfl (Tryd.isAgg3 _) rfl rfl rfl) rfl rfl rfl ?_ | refine th_take 2 rfl (by kernel_rfl) (by kernel_rfl) (by kernel_rfl) ((by first | exact H.get0 | exact H.get1)) (fun _ hS => ov_load_blk hS.2.2 rfl (Tryd.isAgg3 _) rfl rfl rfl) rfl rfl rfl ?_ | refine th_take 2 rfl (by kernel_rfl) (by kernel_rfl) (by kernel_rfl) ((by first | exact H.get0 | exact H.get1)) (fun _ hS => ov_load_blk hS.2.2.2 rfl (Tryd.isAgg3 _) rfl rfl rfl) rfl rfl rfl ?_ | refine th_take 2 rfl (by kernel_rfl) (by kernel_rfl) (by kernel_rfl) ((by first | exact H.get0 | exact H.get1)) (fun _ hS => ov_load_blk hS.2.2.2.2 rfl (Tryd.isAgg3 _) rfl rfl rfl) rfl rfl rfl ?_
          refine th_take 3 rfl (by kernel_rfl) (by kernel_rfl) (by kernel_rfl) ((by first | exact H.get0 | exact H.get1)) (fun _ hS => ov_fieldAddr rfl Tryd.underlying41 rfl (Tryd.sizeOf27 _) (by decide) rfl) rfl rfl rfl ?_
          refine th_take 4 rfl (by kernel_rfl) (by kernel_rfl) (by kernel_rfl) ((by first | exact H.get0 | exact H.get1)) (fun _ hS => ov_load_blkP (vs := [.int .u64 q.th.id, .int .u64 q.th.gen, .int .i64 q.th.due]) hS rfl (Tryd.isAgg27 _) (Tryd.sizeOf27 _) rfl rfl rfl rfl) rfl rfl rfl ?_
          refine th_one 5 (by kernel_rfl) ?_
          refine tw_call (Plain_c q.th _) rfl rfl rfl rfl Tryd.call7 rfl rfl rfl ?_
          rintro _ w24 ⟨rfl, HC⟩
          have H := H.call0n HC
          refine ⟨(by first | exact H.get0 | exact H.get1), ?_⟩
          refine th_one 6 (by kernel_rfl) ?_
          refine tw_call (PutRo_c B c W _ H.get1 (by omega) hc q.slot q.th) rfl rfl rfl rfl Tryd.call30 rfl rfl rfl ?_
          rintro _ w25 ⟨A3, c3, rfl, hc3, HC⟩
          have H := H.top1.call1 HC
          refine ⟨(by first | exact H.get0 | exact H.get1), ?_⟩
          refine th_take 7 rfl (by kernel_rfl) (by kernel_rfl) (by kernel_rfl) ((by first | exact H.get0 | exact H.get1)) (fun _ hS => ov_move rfl rfl) rfl rfl rfl ?_
          refine th_take 8 rfl (by kernel_rfl) (by kernel_rfl) (by kernel_rfl) ((by first | exact H.get0 | exact H.get1)) (fun _ hS => ov_extract rfl rfl rfl) rfl rfl rfl ?_
          refine th_take 9 rfl (by kernel_rfl) (by kernel_rfl) (by kernel_rfl) ((by first | exact H.get0 | exact H.get1)) (fun _ hS => ov_extract rfl rfl rfl) rfl rfl rfl ?_
          refine th_take 10 rfl (by kernel_rfl) (by kernel_rfl) (by kernel_rfl) ((by first | exact H.get0 | exact H.get1)) (fun _ hS => ov_assign rfl rfl) rfl rfl rfl ?_
          refine th_take 11 rfl (by kernel_rfl) (by kernel_rfl) (by kernel_rfl) ((by first | exact H.get0 | exact H.get1)) (fun _ hS => ov_assign rfl rfl) rfl rfl rfl ?_
          refine th_done (by kernel_rfl) ?_
          refine hK24 _ _ (TrC.keep [24, 23, 142, 110, 85, 51, 31, 8, 7, 6, 5, 0, 1] ?_)
          show TrC _ _ _ _ [(24, _), (23, _), (142, _), (110, _), (85, _), (51, _), (31, _), (8, _), (7, _), (6, _), (5, _), (0, _), (1, _)] _ _
          refine tr_seq (fun K25 hK25 => ?_)
          -- region 4: law.go:86
          refine tr_region ?_
          refine tr_val (ov_move rfl rfl) rfl rfl rfl ?_
          refine tr_val (ov_move rfl rfl) rfl rfl rfl ?_
          refine tr_val (ov_fieldAddr rfl Tryd.underlying41 rfl (Tryd.sizeOf3 _) (by decide) rfl) rfl rfl rfl ?_
          first | refine tr_val (ov_load_blk H.get0 rfl (Tryd.isAgg3 _) rfl rfl rfl) rfl rfl rfl ?_ | refine tr_val (ov_load_blk H.get1 rfl (Tryd.isAgg3 _) rfl rfl rfl) rfl rfl rfl ?_ | refine tr_val (ov_load_blk H.get2 rfl (Tryd.isAgg3 _) rfl rfl rfl) rfl rfl rfl ?_ | refine tr_val (ov_load_blk H.get3 rfl (Tryd.isAgg3 _) rfl rfl rfl) rfl rfl rfl ?_ | refine tr_val (ov_load_blk H.get4 rfl (Tryd.isAgg3 _) rfl rfl rfl) rfl rfl rfl ?_ | refine tr_val (ov_load_blk H.get5 rfl (Tryd.isAgg3 _) rfl rfl rfl) rfl rfl rfl ?_ | refine tr_val (ov_load_blk H.get6 rfl (Tryd.isAgg3 _) rfl rfl rfl) rfl rfl rfl ?_ | refine tr_val (ov_load_blk H.get7 rfl (Tryd.isAgg3 _) rfl rfl rfl) rfl rfl rfl ?_
          refine tr_val (ov_fieldAddr rfl Tryd.underlying41 rfl (Tryd.sizeOf27 _) (by decide) rfl) rfl rfl rfl ?_
          refine tr_val (ov_load_blkP (vs := [.int .u64 q.th.id, .int .u64 q.th.gen, .int .i64 q.th.due]) H.get1 rfl (Tryd.isAgg27 _) (Tryd.sizeOf27 _) rfl rfl rfl rfl) rfl rfl rfl ?_
          refine tr_call (ringPut_c d W L _ hL H.get2 q.slot q.th (by omega)) rfl rfl rfl Tryd.call23 rfl rfl rfl ?_
          rintro _ w26 ⟨rfl, L1, hL1, HC⟩
          have H := H.top2.call1 HC
          refine tr_val (ov_move rfl rfl) rfl rfl rfl ?_
          refine tr_val (ov_eql rfl rfl rfl) rfl rfl rfl ?_
          refine tr_val (ov_assign rfl rfl) rfl rfl rfl ?_
          refine tr_val (ov_assign rfl rfl) rfl rfl rfl ?_
          refine tr_nil (hK25 _ _ (TrC.keep [7, 6, 142, 110, 85, 51, 31, 8, 5, 0, 1] ?_))
          show TrC _ _ _ _ [(7, _), (6, _), (142, _), (110, _), (85, _), (51, _), (31, _), (8, _), (5, _), (0, _), (1, _)] _ _
          refine tr_ret (post_ret2 (.inr rfl) rfl rfl rfl ?_)
          have e : doV W q = (putV W q.slot q.th).1 := by unfold doV; rw [if_neg c51, if_neg c85, if_neg c110, if_neg c142]
          rw [e]
          exact ⟨A3, c3, congrArg (fun b => Value.tuple #[.slice A3 (putV W q.slot q.th).1.length c3, .bool b]) (decide_eq_true rfl), hc3, L1, hL1, H.top1.drop2⟩

end Go.Proofs.YtblipnjjgbggiaaDoor
