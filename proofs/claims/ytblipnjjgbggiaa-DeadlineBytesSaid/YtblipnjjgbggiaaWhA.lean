/- Contracts of wheel.Wheel: what only reads, and what puts in and takes out. Conditions: none. -/
import Derived.Test.YtblipnjjgbggiaaWheelM
import Derived.Test.YtblipnjjgbggiaaRingC
import Derived.Test.YtblipnjjgbggiaaRef11
namespace Go.Proofs.Ytblipnjjgbggiaa
open Go Go.RowKit
set_option linter.unusedVariables false
set_option linter.unusedSimpArgs false

/-! curfew/span.instant -/
set_option maxRecDepth 20000 in
theorem instS_c (a : Int) (w : World) : Does Try.prog 110 #[.int .i64 a] w (fun v w' => v = .bool (decide (0 ≤ a ∧ a ≤ 1125899906842624)) ∧ SH w noBlocks [] w') := by
  refine does_enter1 Try.func110 rfl Try.ntmps110 rfl ?_
  have H := SH.start w noBlocks
  refine tr_seq (fun K1 hK1 => ?_)
  -- region 0: span.go:34
  refine tr_region ?_
  refine tr_val (ov_assign rfl rfl) rfl rfl rfl ?_
  refine tr_nil (hK1 _ _ (TrC.keep [2, 0] ?_))
  show TrC _ _ _ _ [(2, _), (0, _)] _ _
  refine tr_seq (fun K2 hK2 => ?_)
  -- region 1: span.go:34
  refine tr_cut [] [(2, .bool (decide (0 ≤ a ∧ a ≤ 1125899906842624)))] (fun w' => SH w noBlocks [] w') (fun K3 hK3 => ?_) (fun w1 H => ?_)
  · skip
    refine tr_val (ov_move rfl rfl) rfl rfl rfl ?_
    refine tr_val (ov_geq rfl rfl rfl) rfl rfl rfl ?_
    refine tr_val (ov_move rfl rfl) rfl rfl rfl ?_
    refine tr_split (t := 5) rfl (fun s5 => ?_) (fun s5 => ?_)
    · skip
      refine tr_val (ov_move rfl rfl) rfl rfl rfl ?_
      refine tr_val (ov_leq rfl rfl rfl) rfl rfl rfl ?_
      refine tr_val (ov_pick (vb := undef) rfl rfl rfl rfl) rfl rfl rfl ?_
      refine tr_val (ov_assign rfl rfl) rfl rfl rfl ?_
      exact tr_nil (hK3 _ _ (Sub.consE rfl (congrArg Value.bool (by exact eqI (by skip; omega))) Sub.nil) (H))
    · skip
      refine tr_pass rfl rfl rfl ?_
      refine tr_pass rfl rfl rfl ?_
      refine tr_val (ov_pick_f (va := undef) rfl rfl rfl rfl) rfl rfl rfl ?_
      refine tr_val (ov_assign rfl rfl) rfl rfl rfl ?_
      exact tr_nil (hK3 _ _ (Sub.consE rfl (congrArg Value.bool (by exact eqF (by skip; omega))) Sub.nil) (H))
  · skip
    refine hK2 _ _ (TrC.keep [2] ?_)
    show TrC _ _ _ _ [(2, _)] _ _
    refine tr_ret (post_ret1 (.inr rfl) rfl rfl ?_)
    exact ⟨rfl, H⟩

def addV (a d : Int) : Int × Int := if ¬ (0 ≤ a ∧ a ≤ 1125899906842624) then (0, 2) else if 1125899906842624 - a < d ∨ d < -a then (0, 10) else (a + d, 0)
theorem addV_zero (a : Int) : (addV a 0).2 = 0 ↔ 0 ≤ a ∧ a ≤ 1125899906842624 := by unfold addV; split <;> (try split) <;> simp <;> omega

/-! curfew/span.Add -/
set_option maxRecDepth 20000 in
theorem AddS_c (a d : Int) (w : World) (hd : -9223372036854775808 ≤ d ∧ d ≤ 9223372036854775807) : Does Try.prog 92 #[.int .i64 a, .int .i64 d] w (fun v w' => v = .tuple #[.int .i64 (addV a d).1, .int .i64 (addV a d).2] ∧ SH w noBlocks [] w') := by
  refine does_enter2 Try.func92 rfl Try.ntmps92 rfl ?_
  have H := SH.start w noBlocks
  refine tr_seq (fun K1 hK1 => ?_)
  -- region 0: span.go:37
  refine tr_region ?_
  refine tr_val (ov_assign rfl rfl) rfl rfl rfl ?_
  refine tr_val (ov_assign rfl rfl) rfl rfl rfl ?_
  refine tr_nil (hK1 _ _ (TrC.keep [5, 4, 0, 1] ?_))
  show TrC _ _ _ _ [(5, _), (4, _), (0, _), (1, _)] _ _
  refine tr_seq (fun K2 hK2 => ?_)
  refine tr_block ?_
  refine tr_seq (fun K3 hK3 => ?_)
  -- region 1: span.go:39
  refine tr_region ?_
  refine tr_val (ov_move rfl rfl) rfl rfl rfl ?_
  refine tr_call (instS_c a _) rfl rfl rfl Try.call110 rfl rfl rfl ?_
  rintro _ w1 ⟨rfl, HC⟩
  have H := H.call0n HC
  refine tr_val (ov_not rfl rfl) rfl rfl rfl ?_
  refine tr_val (ov_assign rfl rfl) rfl rfl rfl ?_
  refine tr_nil (hK3 _ _ (TrC.keep [6, 5, 4, 0, 1] ?_))
  show TrC _ _ _ _ [(6, _), (5, _), (4, _), (0, _), (1, _)] _ _
  refine tr_cond rfl (fun c6 => ?_) (fun c6 => ?_)
  · skip
    refine tr_seq (fun K4 hK4 => ?_)
    -- region 2: span.go:40
    refine tr_region ?_
    refine tr_val (ov_assign rfl rfl) rfl rfl rfl ?_
    refine tr_val (ov_assign rfl rfl) rfl rfl rfl ?_
    refine tr_nil (hK4 _ _ (TrC.keep [5, 4, 6, 0, 1] ?_))
    show TrC _ _ _ _ [(5, _), (4, _), (6, _), (0, _), (1, _)] _ _
    refine tr_ret (post_ret2 (.inr rfl) rfl rfl rfl ?_)
    unfold addV; rw [if_pos (by omega)]; exact ⟨rfl, H⟩
  · skip
    refine tr_seq (fun K5 hK5 => ?_)
    -- region 3: span.go:41
    refine tr_region ?_
    refine tr_val (ov_move rfl rfl) rfl rfl rfl ?_
    refine tr_val (ov_move rfl rfl) rfl rfl rfl ?_
    refine tr_val (ov_sub rfl rfl rfl (w64 (by omega))) rfl rfl rfl ?_
    refine tr_val (ov_gtr rfl rfl rfl) rfl rfl rfl ?_
    refine tr_val (ov_move rfl rfl) rfl rfl rfl ?_
    refine tr_split (t := 15) rfl (fun s15 => ?_) (fun s15 => ?_)
    · skip
      refine tr_pass rfl rfl rfl ?_
      refine tr_pass rfl rfl rfl ?_
      refine tr_pass rfl rfl rfl ?_
      refine tr_pass rfl rfl rfl ?_
      refine tr_val (ov_pick (vb := undef) rfl rfl rfl rfl) rfl rfl rfl ?_
      refine tr_val (ov_assign rfl rfl) rfl rfl rfl ?_
      refine tr_nil (hK5 _ _ (TrC.keep [10, 6, 5, 4, 0, 1] ?_))
      show TrC _ _ _ _ [(10, _), (6, _), (5, _), (4, _), (0, _), (1, _)] _ _
      refine tr_cond_t rfl rfl ?_
      refine tr_seq (fun K6 hK6 => ?_)
      -- region 4: span.go:42
      refine tr_region ?_
      refine tr_val (ov_assign rfl rfl) rfl rfl rfl ?_
      refine tr_val (ov_assign rfl rfl) rfl rfl rfl ?_
      refine tr_nil (hK6 _ _ (TrC.keep [5, 4, 10, 6, 0, 1] ?_))
      show TrC _ _ _ _ [(5, _), (4, _), (10, _), (6, _), (0, _), (1, _)] _ _
      refine tr_ret (post_ret2 (.inr rfl) rfl rfl rfl ?_)
      unfold addV; rw [if_neg (by omega), if_pos (by omega)]; exact ⟨rfl, H⟩
    · skip
      refine tr_val (ov_move rfl rfl) rfl rfl rfl ?_
      refine tr_val (ov_move rfl rfl) rfl rfl rfl ?_
      refine tr_val (ov_neg rfl rfl (w64 (by omega))) rfl rfl rfl ?_
      refine tr_val (ov_lss rfl rfl rfl) rfl rfl rfl ?_
      refine tr_val (ov_pick_f (va := undef) rfl rfl rfl rfl) rfl rfl rfl ?_
      refine tr_val (ov_assign rfl rfl) rfl rfl rfl ?_
      refine tr_nil (hK5 _ _ (TrC.keep [10, 6, 5, 4, 0, 1] ?_))
      show TrC _ _ _ _ [(10, _), (6, _), (5, _), (4, _), (0, _), (1, _)] _ _
      refine tr_cond rfl (fun c10 => ?_) (fun c10 => ?_)
      · skip
        refine tr_seq (fun K7 hK7 => ?_)
        -- region 4: span.go:42
        refine tr_region ?_
        refine tr_val (ov_assign rfl rfl) rfl rfl rfl ?_
        refine tr_val (ov_assign rfl rfl) rfl rfl rfl ?_
        refine tr_nil (hK7 _ _ (TrC.keep [5, 4, 10, 6, 0, 1] ?_))
        show TrC _ _ _ _ [(5, _), (4, _), (10, _), (6, _), (0, _), (1, _)] _ _
        refine tr_ret (post_ret2 (.inr rfl) rfl rfl rfl ?_)
        unfold addV; rw [if_neg (by omega), if_pos (by omega)]; exact ⟨rfl, H⟩
      · skip
        refine tr_skip (hK2 _ _ (TrC.keep [10, 6, 5, 4, 0, 1] ?_))
        show TrC _ _ _ _ [(10, _), (6, _), (5, _), (4, _), (0, _), (1, _)] _ _
        refine tr_seq (fun K8 hK8 => ?_)
        -- region 5: span.go:44
        refine tr_region ?_
        refine tr_val (ov_move rfl rfl) rfl rfl rfl ?_
        refine tr_val (ov_move rfl rfl) rfl rfl rfl ?_
        refine tr_val (ov_add rfl rfl rfl (w64 (by omega))) rfl rfl rfl ?_
        refine tr_val (ov_assign rfl rfl) rfl rfl rfl ?_
        refine tr_val (ov_assign rfl rfl) rfl rfl rfl ?_
        refine tr_nil (hK8 _ _ (TrC.keep [5, 4, 10, 6, 0, 1] ?_))
        show TrC _ _ _ _ [(5, _), (4, _), (10, _), (6, _), (0, _), (1, _)] _ _
        refine tr_ret (post_ret2 (.inr rfl) rfl rfl rfl ?_)
        unfold addV; rw [if_neg (by omega), if_neg (by omega)]; exact ⟨rfl, H⟩

/-! curfew/wheel.instant -/
set_option maxRecDepth 20000 in
theorem instW_c (a : Int) (w : World) : Does Try.prog 52 #[.int .i64 a] w (fun v w' => v = .bool (decide (0 ≤ a ∧ a ≤ 1125899906842624)) ∧ SH w noBlocks [] w') := by
  refine does_enter1 Try.func52 rfl Try.ntmps52 rfl ?_
  have H := SH.start w noBlocks
  refine tr_seq (fun K1 hK1 => ?_)
  -- region 0: wheel.go:30
  refine tr_region ?_
  refine tr_val (ov_assign rfl rfl) rfl rfl rfl ?_
  refine tr_nil (hK1 _ _ (TrC.keep [2, 0] ?_))
  show TrC _ _ _ _ [(2, _), (0, _)] _ _
  refine tr_seq (fun K2 hK2 => ?_)
  -- region 1: wheel.go:31
  refine tr_region ?_
  refine tr_val (ov_move rfl rfl) rfl rfl rfl ?_
  refine tr_call (AddS_c a 0 _ (by omega)) rfl rfl rfl Try.call92 rfl rfl rfl ?_
  rintro _ w1 ⟨rfl, HC⟩
  have H := H.call0n HC
  refine tr_val (ov_move rfl rfl) rfl rfl rfl ?_
  refine tr_val (ov_extract rfl rfl rfl) rfl rfl rfl ?_
  refine tr_val (ov_extract rfl rfl rfl) rfl rfl rfl ?_
  refine tr_val (ov_assign rfl rfl) rfl rfl rfl ?_
  refine tr_val (ov_assign rfl rfl) rfl rfl rfl ?_
  refine tr_nil (hK2 _ _ (TrC.keep [4, 2] ?_))
  show TrC _ _ _ _ [(4, _), (2, _)] _ _
  refine tr_seq (fun K3 hK3 => ?_)
  -- region 2: wheel.go:32
  refine tr_region ?_
  refine tr_val (ov_move rfl rfl) rfl rfl rfl ?_
  refine tr_val (ov_eql rfl rfl rfl) rfl rfl rfl ?_
  refine tr_val (ov_assign rfl rfl) rfl rfl rfl ?_
  refine tr_nil (hK3 _ _ (TrC.keep [2] ?_))
  show TrC _ _ _ _ [(2, _)] _ _
  refine tr_ret (post_ret1 (.inr rfl) rfl rfl ?_)
  exact ⟨congrArg Value.bool (decide_eq_decide.mpr (addV_zero a)), H⟩

/-! curfew/deadline.instant -/
set_option maxRecDepth 20000 in
theorem instD_c (a : Int) (w : World) : Does Try.prog 72 #[.int .i64 a] w (fun v w' => v = .bool (decide (0 ≤ a ∧ a ≤ 1125899906842624)) ∧ SH w noBlocks [] w') := by
  refine does_enter1 Try.func72 rfl Try.ntmps72 rfl ?_
  have H := SH.start w noBlocks
  refine tr_seq (fun K1 hK1 => ?_)
  -- region 0: deadline.go:24
  refine tr_region ?_
  refine tr_val (ov_assign rfl rfl) rfl rfl rfl ?_
  refine tr_nil (hK1 _ _ (TrC.keep [2, 0] ?_))
  show TrC _ _ _ _ [(2, _), (0, _)] _ _
  refine tr_seq (fun K2 hK2 => ?_)
  -- region 1: deadline.go:25
  refine tr_region ?_
  refine tr_val (ov_move rfl rfl) rfl rfl rfl ?_
  refine tr_call (AddS_c a 0 _ (by omega)) rfl rfl rfl Try.call92 rfl rfl rfl ?_
  rintro _ w1 ⟨rfl, HC⟩
  have H := H.call0n HC
  refine tr_val (ov_move rfl rfl) rfl rfl rfl ?_
  refine tr_val (ov_extract rfl rfl rfl) rfl rfl rfl ?_
  refine tr_val (ov_extract rfl rfl rfl) rfl rfl rfl ?_
  refine tr_val (ov_assign rfl rfl) rfl rfl rfl ?_
  refine tr_val (ov_assign rfl rfl) rfl rfl rfl ?_
  refine tr_nil (hK2 _ _ (TrC.keep [4, 2] ?_))
  show TrC _ _ _ _ [(4, _), (2, _)] _ _
  refine tr_seq (fun K3 hK3 => ?_)
  -- region 2: deadline.go:26
  refine tr_region ?_
  refine tr_val (ov_move rfl rfl) rfl rfl rfl ?_
  refine tr_val (ov_eql rfl rfl rfl) rfl rfl rfl ?_
  refine tr_val (ov_assign rfl rfl) rfl rfl rfl ?_
  refine tr_nil (hK3 _ _ (TrC.keep [2] ?_))
  show TrC _ _ _ _ [(2, _)] _ _
  refine tr_ret (post_ret1 (.inr rfl) rfl rfl ?_)
  exact ⟨congrArg Value.bool (decide_eq_decide.mpr (addV_zero a)), H⟩

/-! (*curfew/wheel.Wheel).none -/
set_option maxRecDepth 20000 in
theorem wnone_c (d : Nat) (now : Int) (Rs : List (List RThing)) (Fv : List Thing) (L : List Res) (w : World) (hM : WheelM 65 117 161 30 d now Rs Fv L) (hO : (pack L).holds w) : Does Try.prog 54 #[.pointer (some ⟨d, 0, none⟩)] w (fun v w' => v = .bool false ∧ SH w noBlocks [] w') := by
  obtain ⟨f, m, ds, E, ck, Ls, hG, hE, rfl⟩ := hM
  have hds := hG.1
  have hb : (blk d 65 (cellsW now ds f)).holds w := pack_hold hO (by simp [wheelL])
  have hf : (blk f 117 [.map (some m)]).holds w := pack_hold hO (by simp [wheelL])
  have hm : (mapT m E ck).holds w := pack_hold hO (by simp [wheelL])
  have hr : ∀ i : Int, 0 ≤ i → i < 4 → (pack (gt Ls i)).holds w := fun i h0 h1 => pack_hold hO (by simp only [wheelL, List.mem_cons]; exact .inr (.inr (.inr (List.mem_map.mpr ⟨_, gt_mem h0 (by rw [hG.2.1]; omega), rfl⟩))))
  refine does_enter1 Try.func54 rfl Try.ntmps54 rfl ?_
  have H := SH.start w noBlocks
  refine tr_seq (fun K1 hK1 => ?_)
  -- region 0: wheel.go:47
  refine tr_region ?_
  refine tr_val (ov_assign rfl rfl) rfl rfl rfl ?_
  refine tr_nil (hK1 _ _ (TrC.keep [2, 0] ?_))
  show TrC _ _ _ _ [(2, _), (0, _)] _ _
  refine tr_seq (fun K2 hK2 => ?_)
  -- region 1: wheel.go:47
  refine tr_region ?_
  refine tr_val (ov_move rfl rfl) rfl rfl rfl ?_
  refine tr_val (ov_eql_nil rfl Try.underlying24 rfl rfl) rfl rfl rfl ?_
  refine tr_val (ov_move rfl rfl) rfl rfl rfl ?_
  refine tr_splitb (t := 5) rfl (fun s5 => ?_) (fun s5 => ?_)
  · cases s5
  · skip
    refine tr_val (ov_move rfl rfl) rfl rfl rfl ?_
    refine tr_val (ov_nilCheck rfl rfl) rfl rfl rfl ?_
    refine tr_val (ov_fieldAddr rfl Try.underlying65 rfl (Try.sizeOf63 _) (by decide) rfl) rfl rfl rfl ?_
    refine tr_val (ov_load_blk (H.res0 hb) rfl (Try.isAgg63 _) rfl rfl (cellsW_far hds)) rfl rfl rfl ?_
    refine tr_val (ov_eql_nil rfl Try.underlying63 rfl rfl) rfl rfl rfl ?_
    refine tr_val (ov_pick_f (va := undef) rfl rfl rfl rfl) rfl rfl rfl ?_
    refine tr_val (ov_assign rfl rfl) rfl rfl rfl ?_
    refine tr_nil (hK2 _ _ (TrC.keep [2] ?_))
    show TrC _ _ _ _ [(2, _)] _ _
    refine tr_ret (post_ret1 (.inr rfl) rfl rfl ?_)
    exact ⟨rfl, H⟩

/-- No wheel: nil, or one that New did not make. -/
def NoWheel (w : World) (p : Option Addr) : Prop := p = none ∨ ∃ d, p = some ⟨d, 0, none⟩ ∧ (blk d 65 [.int .i64 0, .pointer none, .pointer none, .pointer none, .pointer none, .pointer none]).holds w
theorem NoWheel.later {w w' : World} {p : Option Addr} {rs : List Res} (h : NoWheel w p) (H : SH w noBlocks rs w') : NoWheel w' p := by
  rcases h with h | ⟨d, h1, h3⟩
  · exact .inl h
  · exact .inr ⟨d, h1, H.res0 h3⟩

/-! (*curfew/wheel.Wheel).none -/
set_option maxRecDepth 20000 in
theorem wnone_nil (w : World) : Does Try.prog 54 #[.pointer none] w (fun v w' => v = .bool true ∧ SH w noBlocks [] w') := by
  refine does_enter1 Try.func54 rfl Try.ntmps54 rfl ?_
  have H := SH.start w noBlocks
  refine tr_seq (fun K1 hK1 => ?_)
  -- region 0: wheel.go:47
  refine tr_region ?_
  refine tr_val (ov_assign rfl rfl) rfl rfl rfl ?_
  refine tr_nil (hK1 _ _ (TrC.keep [2, 0] ?_))
  show TrC _ _ _ _ [(2, _), (0, _)] _ _
  refine tr_seq (fun K2 hK2 => ?_)
  -- region 1: wheel.go:47
  refine tr_region ?_
  refine tr_val (ov_move rfl rfl) rfl rfl rfl ?_
  refine tr_val (ov_eql_nil rfl Try.underlying24 rfl rfl) rfl rfl rfl ?_
  refine tr_val (ov_move rfl rfl) rfl rfl rfl ?_
  refine tr_splitb (t := 5) rfl (fun s5 => ?_) (fun s5 => ?_)
  · skip
    refine tr_pass rfl rfl rfl ?_
    refine tr_pass rfl rfl rfl ?_
    refine tr_pass rfl rfl rfl ?_
    refine tr_pass rfl rfl rfl ?_
    refine tr_pass rfl rfl rfl ?_
    refine tr_val (ov_pick (vb := undef) rfl rfl rfl rfl) rfl rfl rfl ?_
    refine tr_val (ov_assign rfl rfl) rfl rfl rfl ?_
    refine tr_nil (hK2 _ _ (TrC.keep [2] ?_))
    show TrC _ _ _ _ [(2, _)] _ _
    refine tr_ret (post_ret1 (.inr rfl) rfl rfl ?_)
    exact ⟨rfl, H⟩
  · cases s5

/-! (*curfew/wheel.Wheel).none -/
set_option maxRecDepth 20000 in
theorem wnone_zero (d : Nat) (w : World) (hb : (blk d 65 [.int .i64 0, .pointer none, .pointer none, .pointer none, .pointer none, .pointer none]).holds w) : Does Try.prog 54 #[.pointer (some ⟨d, 0, none⟩)] w (fun v w' => v = .bool true ∧ SH w noBlocks [] w') := by
  refine does_enter1 Try.func54 rfl Try.ntmps54 rfl ?_
  have H := SH.start w noBlocks
  refine tr_seq (fun K1 hK1 => ?_)
  -- region 0: wheel.go:47
  refine tr_region ?_
  refine tr_val (ov_assign rfl rfl) rfl rfl rfl ?_
  refine tr_nil (hK1 _ _ (TrC.keep [2, 0] ?_))
  show TrC _ _ _ _ [(2, _), (0, _)] _ _
  refine tr_seq (fun K2 hK2 => ?_)
  -- region 1: wheel.go:47
  refine tr_region ?_
  refine tr_val (ov_move rfl rfl) rfl rfl rfl ?_
  refine tr_val (ov_eql_nil rfl Try.underlying24 rfl rfl) rfl rfl rfl ?_
  refine tr_val (ov_move rfl rfl) rfl rfl rfl ?_
  refine tr_splitb (t := 5) rfl (fun s5 => ?_) (fun s5 => ?_)
  · cases s5
  · skip
    refine tr_val (ov_move rfl rfl) rfl rfl rfl ?_
    refine tr_val (ov_nilCheck rfl rfl) rfl rfl rfl ?_
    refine tr_val (ov_fieldAddr rfl Try.underlying65 rfl (Try.sizeOf63 _) (by decide) rfl) rfl rfl rfl ?_
    refine tr_val (ov_load_blk (H.res0 hb) rfl (Try.isAgg63 _) rfl rfl rfl) rfl rfl rfl ?_
    refine tr_val (ov_eql_nil rfl Try.underlying63 rfl rfl) rfl rfl rfl ?_
    refine tr_val (ov_pick_f (va := undef) rfl rfl rfl rfl) rfl rfl rfl ?_
    refine tr_val (ov_assign rfl rfl) rfl rfl rfl ?_
    refine tr_nil (hK2 _ _ (TrC.keep [2] ?_))
    show TrC _ _ _ _ [(2, _)] _ _
    refine tr_ret (post_ret1 (.inr rfl) rfl rfl ?_)
    exact ⟨rfl, H⟩

theorem wnone_n (p : Option Addr) (w : World) (h : NoWheel w p) : Does Try.prog 54 #[.pointer p] w (fun v w' => v = .bool true ∧ SH w noBlocks [] w') := by
  rcases h with rfl | ⟨d, rfl, hb⟩
  · exact wnone_nil w
  · exact wnone_zero d w hb

/-! (*curfew/wheel.Wheel).Now -/
set_option maxRecDepth 20000 in
theorem wNow_m (d : Nat) (now : Int) (Rs : List (List RThing)) (Fv : List Thing) (L : List Res) (w : World) (hM : WheelM 65 117 161 30 d now Rs Fv L) (hO : (pack L).holds w) : Does Try.prog 23 #[.pointer (some ⟨d, 0, none⟩)] w (fun v w' => v = .int .i64 now ∧ SH w noBlocks [] w') := by
  obtain ⟨f, m, ds, E, ck, Ls, hG, hE, rfl⟩ := hM
  have hds := hG.1
  have hb : (blk d 65 (cellsW now ds f)).holds w := pack_hold hO (by simp [wheelL])
  have hf : (blk f 117 [.map (some m)]).holds w := pack_hold hO (by simp [wheelL])
  have hm : (mapT m E ck).holds w := pack_hold hO (by simp [wheelL])
  have hr : ∀ i : Int, 0 ≤ i → i < 4 → (pack (gt Ls i)).holds w := fun i h0 h1 => pack_hold hO (by simp only [wheelL, List.mem_cons]; exact .inr (.inr (.inr (List.mem_map.mpr ⟨_, gt_mem h0 (by rw [hG.2.1]; omega), rfl⟩))))
  refine does_enter1 Try.func23 rfl Try.ntmps23 rfl ?_
  have H := SH.start w noBlocks
  refine tr_seq (fun K1 hK1 => ?_)
  -- region 0: wheel.go:50
  refine tr_region ?_
  refine tr_val (ov_assign rfl rfl) rfl rfl rfl ?_
  refine tr_nil (hK1 _ _ (TrC.keep [2, 0] ?_))
  show TrC _ _ _ _ [(2, _), (0, _)] _ _
  refine tr_seq (fun K2 hK2 => ?_)
  refine tr_seq (fun K3 hK3 => ?_)
  -- region 1: wheel.go:51
  refine tr_region ?_
  refine tr_val (ov_move rfl rfl) rfl rfl rfl ?_
  refine tr_call (wnone_c d now Rs Fv _ _ ⟨f, m, ds, E, ck, Ls, hG, hE, rfl⟩ (H.res0 hO)) rfl rfl rfl Try.call54 rfl rfl rfl ?_
  rintro _ w1 ⟨rfl, HC⟩
  have H := H.call0n HC
  refine tr_nil (hK3 _ _ (TrC.keep [4, 2, 0] ?_))
  show TrC _ _ _ _ [(4, _), (2, _), (0, _)] _ _
  refine tr_condb rfl (fun c4 => ?_) (fun c4 => ?_)
  · cases c4
  · skip
    refine tr_skip (hK2 _ _ (TrC.keep [4, 2, 0] ?_))
    show TrC _ _ _ _ [(4, _), (2, _), (0, _)] _ _
    refine tr_seq (fun K4 hK4 => ?_)
    -- region 3: wheel.go:54
    refine tr_region ?_
    refine tr_val (ov_move rfl rfl) rfl rfl rfl ?_
    refine tr_val (ov_nilCheck rfl rfl) rfl rfl rfl ?_
    refine tr_val (ov_fieldAddr rfl Try.underlying65 rfl (Try.sizeOf2 _) (by decide) rfl) rfl rfl rfl ?_
    refine tr_val (ov_load_blk (H.res0 hb) rfl (Try.isAgg2 _) rfl rfl rfl) rfl rfl rfl ?_
    refine tr_val (ov_assign rfl rfl) rfl rfl rfl ?_
    refine tr_nil (hK4 _ _ (TrC.keep [2, 4, 0] ?_))
    show TrC _ _ _ _ [(2, _), (4, _), (0, _)] _ _
    refine tr_ret (post_ret1 (.inr rfl) rfl rfl ?_)
    exact ⟨rfl, H⟩

/-! (*curfew/wheel.Wheel).Now -/
set_option maxRecDepth 20000 in
theorem wNow_n (p : Option Addr) (w : World) (hp : NoWheel w p) : Does Try.prog 23 #[.pointer p] w (fun v w' => v = .int .i64 0 ∧ SH w noBlocks [] w') := by
  refine does_enter1 Try.func23 rfl Try.ntmps23 rfl ?_
  have H := SH.start w noBlocks
  refine tr_seq (fun K1 hK1 => ?_)
  -- region 0: wheel.go:50
  refine tr_region ?_
  refine tr_val (ov_assign rfl rfl) rfl rfl rfl ?_
  refine tr_nil (hK1 _ _ (TrC.keep [2, 0] ?_))
  show TrC _ _ _ _ [(2, _), (0, _)] _ _
  refine tr_seq (fun K2 hK2 => ?_)
  refine tr_seq (fun K3 hK3 => ?_)
  -- region 1: wheel.go:51
  refine tr_region ?_
  refine tr_val (ov_move rfl rfl) rfl rfl rfl ?_
  refine tr_call (wnone_n p _ (hp.later H)) rfl rfl rfl Try.call54 rfl rfl rfl ?_
  rintro _ w1 ⟨rfl, HC⟩
  have H := H.call0n HC
  refine tr_nil (hK3 _ _ (TrC.keep [4, 2, 0] ?_))
  show TrC _ _ _ _ [(4, _), (2, _), (0, _)] _ _
  refine tr_condb rfl (fun c4 => ?_) (fun c4 => ?_)
  · skip
    refine tr_seq (fun K4 hK4 => ?_)
    -- region 2: wheel.go:52
    refine tr_region ?_
    refine tr_val (ov_assign rfl rfl) rfl rfl rfl ?_
    refine tr_nil (hK4 _ _ (TrC.keep [2, 4, 0] ?_))
    show TrC _ _ _ _ [(2, _), (4, _), (0, _)] _ _
    refine tr_ret (post_ret1 (.inr rfl) rfl rfl ?_)
    exact ⟨rfl, H⟩
  · cases c4

/-! (*curfew/wheel.Wheel).Spread -/
set_option maxRecDepth 20000 in
theorem wSpread_c (d : Nat) (now : Int) (X : List Thing) (L : List Res) (w : World) (hX : WheelX 65 117 161 30 d now X L) (hO : (pack L).holds w) : Does Try.prog 19 #[.pointer (some ⟨d, 0, none⟩)] w (fun v w' => v = .agg ((spreadA now X).map fun n : Int => Value.int .i64 n).toArray ∧ SH w noBlocks [] w') := by
  have hX0 := hX
  obtain ⟨Rs, Fv, hW, hM⟩ := hX
  have hM0 := hM
  obtain ⟨f, m, ds, E, ck, Ls, hG, hE, rfl⟩ := hM
  have hds := hG.1
  have hb : (blk d 65 (cellsW now ds f)).holds w := pack_hold hO (by simp [wheelL])
  have hf : (blk f 117 [.map (some m)]).holds w := pack_hold hO (by simp [wheelL])
  have hm : (mapT m E ck).holds w := pack_hold hO (by simp [wheelL])
  have hr : ∀ i : Int, 0 ≤ i → i < 4 → (pack (gt Ls i)).holds w := fun i h0 h1 => pack_hold hO (by simp only [wheelL, List.mem_cons]; exact .inr (.inr (.inr (List.mem_map.mpr ⟨_, gt_mem h0 (by rw [hG.2.1]; omega), rfl⟩))))
  refine does_enter1 Try.func19 rfl Try.ntmps19 rfl ?_
  have H := SH.start w noBlocks
  refine tr_seq (fun K1 hK1 => ?_)
  -- region 0: wheel.go:78
  refine tr_region ?_
  refine tr_alloc H rfl (Try.zeroValue38 _) rfl rfl rfl rfl ?_
  intro b1 w1 hb1 H
  refine tr_nil (hK1 _ _ (TrC.keep [2, 0] ?_))
  show TrC _ _ _ _ [(2, _), (0, _)] _ _
  refine tr_seq (fun K2 hK2 => ?_)
  refine tr_seq (fun K3 hK3 => ?_)
  -- region 1: wheel.go:79
  refine tr_region ?_
  refine tr_val (ov_move rfl rfl) rfl rfl rfl ?_
  refine tr_call (wnone_c d now Rs Fv _ _ ⟨f, m, ds, E, ck, Ls, hG, hE, rfl⟩ (H.res0 hO)) rfl rfl rfl Try.call54 rfl rfl rfl ?_
  rintro _ w2 ⟨rfl, HC⟩
  have H := H.call0n HC
  refine tr_nil (hK3 _ _ (TrC.keep [6, 2, 0] ?_))
  show TrC _ _ _ _ [(6, _), (2, _), (0, _)] _ _
  refine tr_condb rfl (fun c6 => ?_) (fun c6 => ?_)
  · cases c6
  · skip
    refine tr_skip (hK2 _ _ (TrC.keep [6, 2, 0] ?_))
    show TrC _ _ _ _ [(6, _), (2, _), (0, _)] _ _
    refine tr_seq (fun K4 hK4 => ?_)
    refine tr_seq (fun K5 hK5 => ?_)
    -- region 3: wheel.go:82
    refine tr_region ?_
    refine tr_val (ov_move rfl rfl) rfl rfl rfl ?_
    refine tr_val (ov_nilCheck rfl rfl) rfl rfl rfl ?_
    refine tr_val (ov_fieldAddr rfl Try.underlying65 rfl (Try.sizeOf62 _) (by decide) rfl) rfl rfl rfl ?_
    refine tr_val (ov_load_blkP (vs := ds.map ptrN) (H.res0 hb) rfl (Try.isAgg62 _) (Try.sizeOf62 _) (arr_len hds) rfl rfl (cellsW_arr hds)) rfl rfl rfl ?_
    refine tr_val (ov_move rfl rfl) rfl rfl rfl ?_
    refine tr_nil (hK5 _ _ (TrC.keep [12, 11, 6, 2, 0] ?_))
    show TrC _ _ _ _ [(12, _), (11, _), (6, _), (2, _), (0, _)] _ _
    refine tr_block ?_
    refine tr_loop_ (X := Int) [11, 6, 2, 0] (fun i => [(12, .int .i64 i)]) (fun i w' => 0 ≤ i ∧ i ≤ 4 ∧ SH w noBlocks [blk b1 38 (spC Rs i)] w') (fun i => (4 - i).toNat) (0) (Sub.cons rfl (Sub.cons rfl (Sub.cons rfl (Sub.cons rfl (Sub.cons rfl Sub.nil))))) (⟨by omega, by omega, H⟩) ?_
    rintro i w3 ⟨hi0, hi1, H⟩ K6 hK6
    show TrC _ _ _ _ [(12, _), (11, _), (6, _), (2, _), (0, _)] _ _
    refine tr_seq (fun K7 hK7 => ?_)
    -- region 4: wheel.go:82
    refine tr_region ?_
    refine tr_val (ov_lss rfl rfl rfl) rfl rfl rfl ?_
    refine tr_nil (hK7 _ _ (TrC.keep [13, 12, 11, 6, 2, 0] ?_))
    show TrC _ _ _ _ [(13, _), (12, _), (11, _), (6, _), (2, _), (0, _)] _ _
    refine tr_seq (fun K8 hK8 => ?_)
    refine tr_cond rfl (fun c13 => ?_) (fun c13 => ?_)
    · skip
      refine tr_skip (hK8 _ _ (TrC.keep [13, 12, 11, 6, 2, 0] ?_))
      show TrC _ _ _ _ [(13, _), (12, _), (11, _), (6, _), (2, _), (0, _)] _ _
      refine tr_seq (fun K9 hK9 => ?_)
      refine tr_block ?_
      refine tr_seq (fun K10 hK10 => ?_)
      -- region 5: wheel.go:82
      refine tr_region ?_
      refine tr_val (ov_move rfl rfl) rfl rfl rfl ?_
      refine tr_val (ov_indexArr (vs := ds.map ptrN) rfl Try.underlying62 (Try.sizeOf61 _) (Try.isAgg61 _) rfl rfl hi0 (by omega) (arr_at hds hi0 (by omega))) rfl rfl rfl ?_
      refine tr_val (ov_assign rfl rfl) rfl rfl rfl ?_
      refine tr_val (ov_assign rfl rfl) rfl rfl rfl ?_
      refine tr_nil (hK10 _ _ (TrC.keep [4, 3, 13, 12, 11, 6, 2, 0] ?_))
      show TrC _ _ _ _ [(4, _), (3, _), (13, _), (12, _), (11, _), (6, _), (2, _), (0, _)] _ _
      -- region 6: wheel.go:83
      refine tr_region ?_
      refine tr_val (ov_move rfl rfl) rfl rfl rfl ?_
      refine tr_val (ov_move rfl rfl) rfl rfl rfl ?_
      refine tr_call (ringLen_c (gt ds i) (gt Rs i) (gt Ls i) _ (hG.2.2 i hi0 (by omega)) (H.res0 (hr i hi0 (by omega)))) rfl rfl rfl Try.call62 rfl rfl rfl ?_
      rintro _ w4 ⟨rfl, HC⟩
      have H := H.call0n HC
      refine tr_val (ov_indexAddrA rfl Try.underlying38 (Try.sizeOf3 _) rfl rfl (by omega) (by omega)) rfl rfl rfl ?_
      refine tr_store (b := b1) (j := i.toNat) H.get0 rfl (Try.sizeOf3 _) rfl (by rw [add_lit, Nat.zero_add, Nat.mul_one]) rfl rfl (Nat.blt_eq.mpr (by show i.toNat < 5; omega)) rfl rfl ?_
      intro w9 U
      rw [spC_set hi0 (by omega)] at U
      have H := H.upd0 U; clear U
      refine tr_nil (hK9 _ _ (TrC.keep [13, 12, 11, 6, 2, 0] ?_))
      show TrC _ _ _ _ [(13, _), (12, _), (11, _), (6, _), (2, _), (0, _)] _ _
      -- region 7: wheel.go:82
      refine tr_region ?_
      refine tr_val (ov_add rfl rfl rfl (w64 (by omega))) rfl rfl rfl ?_
      refine tr_val (ov_move rfl rfl) rfl rfl rfl ?_
      skip
      exact tr_nil (hK6 (i + 1) _ _ (⟨by omega, by omega, H⟩) (by omega) (Sub.cons rfl (Sub.cons rfl (Sub.cons rfl (Sub.cons rfl (Sub.cons rfl Sub.nil))))))
    · skip
      refine tr_exit (hK4 _ _ (TrC.keep [13, 12, 11, 6, 2, 0] ?_))
      show TrC _ _ _ _ [(13, _), (12, _), (11, _), (6, _), (2, _), (0, _)] _ _
      refine tr_seq (fun K11 hK11 => ?_)
      -- region 8: wheel.go:85
      refine tr_region ?_
      refine tr_val (ov_move rfl rfl) rfl rfl rfl ?_
      refine tr_val (ov_nilCheck rfl rfl) rfl rfl rfl ?_
      refine tr_val (ov_fieldAddr rfl Try.underlying65 rfl (Try.sizeOf63 _) (by decide) rfl) rfl rfl rfl ?_
      refine tr_val (ov_load_blk (H.res0 hb) rfl (Try.isAgg63 _) rfl rfl (cellsW_far hds)) rfl rfl rfl ?_
      refine tr_val (ov_nilCheck rfl rfl) rfl rfl rfl ?_
      refine tr_val (ov_fieldAddr rfl Try.underlying117 rfl (Try.sizeOf71 _) (by decide) rfl) rfl rfl rfl ?_
      refine tr_val (ov_load_blk (H.res0 hf) rfl (Try.isAgg71 _) rfl rfl rfl) rfl rfl rfl ?_
      refine tr_val (ov_lenMap (H.res0 hm) rfl rfl Try.underlying71 rfl) rfl rfl rfl ?_
      refine tr_val (ov_indexAddrA rfl Try.underlying38 (Try.sizeOf3 _) rfl rfl (by omega) (by omega)) rfl rfl rfl ?_
      (refine tr_store H.get0 rfl (Try.sizeOf3 _) rfl rfl rfl rfl rfl rfl rfl ?_; intro w5 U; have H := H.upd0 U; clear U)
      try simp only [List.set_cons_zero, List.set_cons_succ, Nat.zero_add] at H
      refine tr_nil (hK11 _ _ (TrC.keep [13, 12, 11, 6, 2, 0] ?_))
      show TrC _ _ _ _ [(13, _), (12, _), (11, _), (6, _), (2, _), (0, _)] _ _
      refine tr_seq (fun K12 hK12 => ?_)
      -- region 9: wheel.go:86
      refine tr_region ?_
      refine tr_val (ov_load_blkN H.get0 rfl (Try.isAgg38 _) (Try.sizeOf38 _) rfl rfl rfl) rfl rfl rfl ?_
      (refine tr_storeW H.get0 rfl (Try.sizeOf38 _) rfl rfl rfl rfl rfl rfl rfl rfl ?_; intro w6 U; have H := H.upd0 U; clear U)
      refine tr_nil (hK12 _ _ (TrC.keep [13, 12, 11, 6, 2, 0] ?_))
      show TrC _ _ _ _ [(13, _), (12, _), (11, _), (6, _), (2, _), (0, _)] _ _
      refine tr_ret (post_ret1 (.inr rfl) rfl (by exact ⟨_, rfl, res_blkN H.get0 (Try.isAgg38 _) (Try.sizeOf38 _) rfl rfl⟩) ?_)
      have hi : i = 4 := by omega
      subst hi
      refine ⟨?_, H.drop0⟩
      rw [hE.len, hW.cntFar]
      show Value.agg #[.int .i64 ((gt Rs 0).length : Int), .int .i64 ((gt Rs 1).length : Int), .int .i64 ((gt Rs 2).length : Int), .int .i64 ((gt Rs 3).length : Int), .int .i64 (cntX now X 4 : Nat)] = _
      rw [hW.cnt (by decide) (by decide), hW.cnt (by decide) (by decide), hW.cnt (by decide) (by decide), hW.cnt (by decide) (by decide)]
      rfl

/-! (*curfew/wheel.Wheel).Spread -/
set_option maxRecDepth 20000 in
theorem wSpread_n (p : Option Addr) (w : World) (hp : NoWheel w p) : Does Try.prog 19 #[.pointer p] w (fun v w' => v = .agg #[.int .i64 0, .int .i64 0, .int .i64 0, .int .i64 0, .int .i64 0] ∧ SH w noBlocks [] w') := by
  refine does_enter1 Try.func19 rfl Try.ntmps19 rfl ?_
  have H := SH.start w noBlocks
  refine tr_seq (fun K1 hK1 => ?_)
  -- region 0: wheel.go:78
  refine tr_region ?_
  refine tr_alloc H rfl (Try.zeroValue38 _) rfl rfl rfl rfl ?_
  intro b1 w1 hb1 H
  refine tr_nil (hK1 _ _ (TrC.keep [2, 0] ?_))
  show TrC _ _ _ _ [(2, _), (0, _)] _ _
  refine tr_seq (fun K2 hK2 => ?_)
  refine tr_seq (fun K3 hK3 => ?_)
  -- region 1: wheel.go:79
  refine tr_region ?_
  refine tr_val (ov_move rfl rfl) rfl rfl rfl ?_
  refine tr_call (wnone_n p _ (hp.later H)) rfl rfl rfl Try.call54 rfl rfl rfl ?_
  rintro _ w2 ⟨rfl, HC⟩
  have H := H.call0n HC
  refine tr_nil (hK3 _ _ (TrC.keep [6, 2, 0] ?_))
  show TrC _ _ _ _ [(6, _), (2, _), (0, _)] _ _
  refine tr_condb rfl (fun c6 => ?_) (fun c6 => ?_)
  · skip
    refine tr_seq (fun K4 hK4 => ?_)
    -- region 2: wheel.go:80
    refine tr_region ?_
    refine tr_val (ov_load_blkN H.get0 rfl (Try.isAgg38 _) (Try.sizeOf38 _) rfl rfl rfl) rfl rfl rfl ?_
    (refine tr_storeW H.get0 rfl (Try.sizeOf38 _) rfl rfl rfl rfl rfl rfl rfl rfl ?_; intro w3 U; have H := H.upd0 U; clear U)
    refine tr_nil (hK4 _ _ (TrC.keep [6, 2, 0] ?_))
    show TrC _ _ _ _ [(6, _), (2, _), (0, _)] _ _
    refine tr_ret (post_ret1 (.inr rfl) rfl (by exact ⟨_, rfl, res_blkN H.get0 (Try.isAgg38 _) (Try.sizeOf38 _) rfl rfl⟩) ?_)
    exact ⟨rfl, H.drop0⟩
  · cases c6

/-! (*curfew/wheel.Wheel).Len -/
set_option maxRecDepth 20000 in
theorem wLen_c (d : Nat) (now : Int) (X : List Thing) (L : List Res) (w : World) (hX : WheelX 65 117 161 30 d now X L) (hO : (pack L).holds w) : Does Try.prog 20 #[.pointer (some ⟨d, 0, none⟩)] w (fun v w' => v = .int .i64 X.length ∧ SH w noBlocks [] w') := by
  have hX0 := hX
  obtain ⟨Rs, Fv, hW, hM⟩ := hX
  have hM0 := hM
  obtain ⟨f, m, ds, E, ck, Ls, hG, hE, rfl⟩ := hM
  have hds := hG.1
  have hb : (blk d 65 (cellsW now ds f)).holds w := pack_hold hO (by simp [wheelL])
  have hf : (blk f 117 [.map (some m)]).holds w := pack_hold hO (by simp [wheelL])
  have hm : (mapT m E ck).holds w := pack_hold hO (by simp [wheelL])
  have hr : ∀ i : Int, 0 ≤ i → i < 4 → (pack (gt Ls i)).holds w := fun i h0 h1 => pack_hold hO (by simp only [wheelL, List.mem_cons]; exact .inr (.inr (.inr (List.mem_map.mpr ⟨_, gt_mem h0 (by rw [hG.2.1]; omega), rfl⟩))))
  have hfew := hW.few
  refine does_enter1 Try.func20 rfl Try.ntmps20 rfl ?_
  have H := SH.start w noBlocks
  refine tr_seq (fun K1 hK1 => ?_)
  -- region 0: wheel.go:90
  refine tr_region ?_
  refine tr_val (ov_assign rfl rfl) rfl rfl rfl ?_
  refine tr_nil (hK1 _ _ (TrC.keep [2, 0] ?_))
  show TrC _ _ _ _ [(2, _), (0, _)] _ _
  refine tr_seq (fun K2 hK2 => ?_)
  refine tr_seq (fun K3 hK3 => ?_)
  -- region 1: wheel.go:91
  refine tr_region ?_
  refine tr_val (ov_move rfl rfl) rfl rfl rfl ?_
  refine tr_call (wSpread_c d now X _ _ hX0 (H.res0 hO)) rfl rfl rfl Try.call19 rfl rfl rfl ?_
  rintro _ w1 ⟨rfl, HC⟩
  have H := H.call0n HC
  refine tr_val (ov_move rfl rfl) rfl rfl rfl ?_
  refine tr_nil (hK3 _ _ (TrC.keep [7, 6, 2] ?_))
  show TrC _ _ _ _ [(7, _), (6, _), (2, _)] _ _
  refine tr_block ?_
  refine tr_loop_ (X := Int) [6] (fun i => [(7, .int .i64 i), (2, .int .i64 (lenTo now X i))]) (fun i w' => 0 ≤ i ∧ i ≤ 5 ∧ SH w noBlocks [] w') (fun i => (5 - i).toNat) (0) (Sub.cons rfl (Sub.cons rfl (Sub.cons rfl Sub.nil))) (⟨by omega, by omega, H⟩) ?_
  rintro i w2 ⟨hi0, hi1, H⟩ K4 hK4
  show TrC _ _ _ _ [(7, _), (2, _), (6, _)] _ _
  refine tr_seq (fun K5 hK5 => ?_)
  -- region 2: wheel.go:91
  refine tr_region ?_
  refine tr_val (ov_lss rfl rfl rfl) rfl rfl rfl ?_
  refine tr_nil (hK5 _ _ (TrC.keep [8, 7, 2, 6] ?_))
  show TrC _ _ _ _ [(8, _), (7, _), (2, _), (6, _)] _ _
  refine tr_seq (fun K6 hK6 => ?_)
  refine tr_cond rfl (fun c8 => ?_) (fun c8 => ?_)
  · skip
    refine tr_skip (hK6 _ _ (TrC.keep [8, 7, 2, 6] ?_))
    show TrC _ _ _ _ [(8, _), (7, _), (2, _), (6, _)] _ _
    refine tr_seq (fun K7 hK7 => ?_)
    refine tr_block ?_
    refine tr_seq (fun K8 hK8 => ?_)
    -- region 3: wheel.go:91
    have hsr := spread_rng (now := now) (X := X) hi0 (by omega)
    have hlt := lenTo_le (now := now) (X := X) (i := i)
    refine tr_region ?_
    refine tr_val (ov_indexArr (vs := (spreadA now X).map fun n : Int => Value.int .i64 n) rfl Try.underlying38 (Try.sizeOf3 _) (Try.isAgg3 _) rfl rfl hi0 (by omega) (spread_at hi0 (by omega))) rfl rfl rfl ?_
    refine tr_val (ov_assign rfl rfl) rfl rfl rfl ?_
    refine tr_nil (hK8 _ _ (TrC.keep [4, 8, 7, 2, 6] ?_))
    show TrC _ _ _ _ [(4, _), (8, _), (7, _), (2, _), (6, _)] _ _
    -- region 4: wheel.go:92
    refine tr_region ?_
    refine tr_val (ov_move rfl rfl) rfl rfl rfl ?_
    refine tr_val (ov_move rfl rfl) rfl rfl rfl ?_
    refine tr_val (ov_add rfl rfl rfl (w64 (by omega))) rfl rfl rfl ?_
    refine tr_val (ov_assign rfl rfl) rfl rfl rfl ?_
    refine tr_nil (hK7 _ _ (TrC.keep [2, 8, 7, 6] ?_))
    show TrC _ _ _ _ [(2, _), (8, _), (7, _), (6, _)] _ _
    -- region 5: wheel.go:91
    refine tr_region ?_
    refine tr_val (ov_add rfl rfl rfl (w64 (by omega))) rfl rfl rfl ?_
    refine tr_val (ov_move rfl rfl) rfl rfl rfl ?_
    skip
    exact tr_nil (hK4 (i + 1) _ _ (⟨by omega, by omega, H⟩) (by omega) (Sub.cons rfl (Sub.consE rfl (congrArg (Value.int .i64) (lenTo_step hi0 (by omega)).symm) (Sub.cons rfl Sub.nil))))
  · skip
    refine tr_exit (hK2 _ _ (TrC.keep [8, 7, 2, 6] ?_))
    show TrC _ _ _ _ [(8, _), (7, _), (2, _), (6, _)] _ _
    refine tr_seq (fun K9 hK9 => ?_)
    -- region 6: wheel.go:94
    refine tr_region ?_
    refine tr_val (ov_move rfl rfl) rfl rfl rfl ?_
    refine tr_val (ov_assign rfl rfl) rfl rfl rfl ?_
    refine tr_nil (hK9 _ _ (TrC.keep [2, 8, 7, 6] ?_))
    show TrC _ _ _ _ [(2, _), (8, _), (7, _), (6, _)] _ _
    refine tr_ret (post_ret1 (.inr rfl) rfl rfl ?_)
    have hi : i = 5 := by omega
    subst hi
    exact ⟨rfl, H⟩

theorem zero5 {i : Int} (h0 : 0 ≤ i) (h1 : i < 5) : ([.int .i64 0, .int .i64 0, .int .i64 0, .int .i64 0, .int .i64 0] : List Value)[i.toNat]? = some (.int .i64 0) := by
  rcases (show i = 0 ∨ i = 1 ∨ i = 2 ∨ i = 3 ∨ i = 4 by omega) with rfl | rfl | rfl | rfl | rfl <;> rfl

/-! (*curfew/wheel.Wheel).Len -/
set_option maxRecDepth 20000 in
theorem wLen_n (p : Option Addr) (w : World) (hp : NoWheel w p) : Does Try.prog 20 #[.pointer p] w (fun v w' => v = .int .i64 0 ∧ SH w noBlocks [] w') := by
  refine does_enter1 Try.func20 rfl Try.ntmps20 rfl ?_
  have H := SH.start w noBlocks
  refine tr_seq (fun K1 hK1 => ?_)
  -- region 0: wheel.go:90
  refine tr_region ?_
  refine tr_val (ov_assign rfl rfl) rfl rfl rfl ?_
  refine tr_nil (hK1 _ _ (TrC.keep [2, 0] ?_))
  show TrC _ _ _ _ [(2, _), (0, _)] _ _
  refine tr_seq (fun K2 hK2 => ?_)
  refine tr_seq (fun K3 hK3 => ?_)
  -- region 1: wheel.go:91
  refine tr_region ?_
  refine tr_val (ov_move rfl rfl) rfl rfl rfl ?_
  refine tr_call (wSpread_n p _ hp) rfl rfl rfl Try.call19 rfl rfl rfl ?_
  rintro _ w1 ⟨rfl, HC⟩
  have H := H.call0n HC
  refine tr_val (ov_move rfl rfl) rfl rfl rfl ?_
  refine tr_nil (hK3 _ _ (TrC.keep [7, 6, 2] ?_))
  show TrC _ _ _ _ [(7, _), (6, _), (2, _)] _ _
  refine tr_block ?_
  refine tr_loop_ (X := Int) [6] (fun i => [(7, .int .i64 i), (2, .int .i64 0)]) (fun i w' => 0 ≤ i ∧ i ≤ 5 ∧ SH w noBlocks [] w') (fun i => (5 - i).toNat) (0) (Sub.cons rfl (Sub.cons rfl (Sub.cons rfl Sub.nil))) (⟨by omega, by omega, H⟩) ?_
  rintro i w2 ⟨hi0, hi1, H⟩ K4 hK4
  show TrC _ _ _ _ [(7, _), (2, _), (6, _)] _ _
  refine tr_seq (fun K5 hK5 => ?_)
  -- region 2: wheel.go:91
  refine tr_region ?_
  refine tr_val (ov_lss rfl rfl rfl) rfl rfl rfl ?_
  refine tr_nil (hK5 _ _ (TrC.keep [8, 7, 2, 6] ?_))
  show TrC _ _ _ _ [(8, _), (7, _), (2, _), (6, _)] _ _
  refine tr_seq (fun K6 hK6 => ?_)
  refine tr_cond rfl (fun c8 => ?_) (fun c8 => ?_)
  · skip
    refine tr_skip (hK6 _ _ (TrC.keep [8, 7, 2, 6] ?_))
    show TrC _ _ _ _ [(8, _), (7, _), (2, _), (6, _)] _ _
    refine tr_seq (fun K7 hK7 => ?_)
    refine tr_block ?_
    refine tr_seq (fun K8 hK8 => ?_)
    -- region 3: wheel.go:91
    refine tr_region ?_
    refine tr_val (ov_indexArr (vs := [.int .i64 0, .int .i64 0, .int .i64 0, .int .i64 0, .int .i64 0]) rfl Try.underlying38 (Try.sizeOf3 _) (Try.isAgg3 _) rfl rfl hi0 (by omega) (zero5 hi0 (by omega))) rfl rfl rfl ?_
    refine tr_val (ov_assign rfl rfl) rfl rfl rfl ?_
    refine tr_nil (hK8 _ _ (TrC.keep [4, 8, 7, 2, 6] ?_))
    show TrC _ _ _ _ [(4, _), (8, _), (7, _), (2, _), (6, _)] _ _
    -- region 4: wheel.go:92
    refine tr_region ?_
    refine tr_val (ov_move rfl rfl) rfl rfl rfl ?_
    refine tr_val (ov_move rfl rfl) rfl rfl rfl ?_
    refine tr_val (ov_add rfl rfl rfl (w64 (by omega))) rfl rfl rfl ?_
    refine tr_val (ov_assign rfl rfl) rfl rfl rfl ?_
    refine tr_nil (hK7 _ _ (TrC.keep [2, 8, 7, 6] ?_))
    show TrC _ _ _ _ [(2, _), (8, _), (7, _), (6, _)] _ _
    -- region 5: wheel.go:91
    refine tr_region ?_
    refine tr_val (ov_add rfl rfl rfl (w64 (by omega))) rfl rfl rfl ?_
    refine tr_val (ov_move rfl rfl) rfl rfl rfl ?_
    skip
    exact tr_nil (hK4 (i + 1) _ _ (⟨by omega, by omega, H⟩) (by omega) (Sub.cons rfl (Sub.cons rfl (Sub.cons rfl Sub.nil))))
  · skip
    refine tr_exit (hK2 _ _ (TrC.keep [8, 7, 2, 6] ?_))
    show TrC _ _ _ _ [(8, _), (7, _), (2, _), (6, _)] _ _
    refine tr_seq (fun K9 hK9 => ?_)
    -- region 6: wheel.go:94
    refine tr_region ?_
    refine tr_val (ov_move rfl rfl) rfl rfl rfl ?_
    refine tr_val (ov_assign rfl rfl) rfl rfl rfl ?_
    refine tr_nil (hK9 _ _ (TrC.keep [2, 8, 7, 6] ?_))
    show TrC _ _ _ _ [(2, _), (8, _), (7, _), (6, _)] _ _
    refine tr_ret (post_ret1 (.inr rfl) rfl rfl ?_)
    exact ⟨rfl, H⟩

/-! (*curfew/wheel.Wheel).Get -/
set_option maxRecDepth 20000 in
theorem wGet_c (d : Nat) (now : Int) (X : List Thing) (L : List Res) (w : World) (hX : WheelX 65 117 161 30 d now X L) (hO : (pack L).holds w) (id : Int) : Does Try.prog 27 #[.pointer (some ⟨d, 0, none⟩), .int .u64 id] w (fun v w' => v = .tuple #[.agg #[.int .u64 (tOr (findT id X)).id, .int .u64 (tOr (findT id X)).gen, .int .i64 (tOr (findT id X)).due], .bool ((findT id X)).isSome] ∧ SH w noBlocks [] w') := by
  have hX0 := hX
  obtain ⟨Rs, Fv, hW, hM⟩ := hX
  have hM0 := hM
  obtain ⟨f, m, ds, E, ck, Ls, hG, hE, rfl⟩ := hM
  have hds := hG.1
  have hb : (blk d 65 (cellsW now ds f)).holds w := pack_hold hO (by simp [wheelL])
  have hf : (blk f 117 [.map (some m)]).holds w := pack_hold hO (by simp [wheelL])
  have hm : (mapT m E ck).holds w := pack_hold hO (by simp [wheelL])
  have hr : ∀ i : Int, 0 ≤ i → i < 4 → (pack (gt Ls i)).holds w := fun i h0 h1 => pack_hold hO (by simp only [wheelL, List.mem_cons]; exact .inr (.inr (.inr (List.mem_map.mpr ⟨_, gt_mem h0 (by rw [hG.2.1]; omega), rfl⟩))))
  refine does_enter2 Try.func27 rfl Try.ntmps27 rfl ?_
  have H := SH.start w noBlocks
  refine tr_seq (fun K1 hK1 => ?_)
  -- region 0: wheel.go:98
  refine tr_region ?_
  refine tr_alloc H rfl (Try.zeroValue30 _) rfl rfl rfl rfl ?_
  intro b1 w1 hb1 H
  refine tr_val (ov_assign rfl rfl) rfl rfl rfl ?_
  refine tr_nil (hK1 _ _ (TrC.keep [5, 4, 0, 1] ?_))
  show TrC _ _ _ _ [(5, _), (4, _), (0, _), (1, _)] _ _
  refine tr_seq (fun K2 hK2 => ?_)
  refine tr_seq (fun K3 hK3 => ?_)
  -- region 1: wheel.go:99
  refine tr_region ?_
  refine tr_val (ov_move rfl rfl) rfl rfl rfl ?_
  refine tr_call (wnone_c d now Rs Fv _ _ ⟨f, m, ds, E, ck, Ls, hG, hE, rfl⟩ (H.res0 hO)) rfl rfl rfl Try.call54 rfl rfl rfl ?_
  rintro _ w2 ⟨rfl, HC⟩
  have H := H.call0n HC
  refine tr_nil (hK3 _ _ (TrC.keep [14, 5, 4, 0, 1] ?_))
  show TrC _ _ _ _ [(14, _), (5, _), (4, _), (0, _), (1, _)] _ _
  refine tr_condb rfl (fun c14 => ?_) (fun c14 => ?_)
  · cases c14
  · skip
    refine tr_skip (hK2 _ _ (TrC.keep [14, 5, 4, 0, 1] ?_))
    show TrC _ _ _ _ [(14, _), (5, _), (4, _), (0, _), (1, _)] _ _
    refine tr_seq (fun K4 hK4 => ?_)
    refine tr_seq (fun K5 hK5 => ?_)
    -- region 3: wheel.go:102
    refine tr_region ?_
    refine tr_val (ov_move rfl rfl) rfl rfl rfl ?_
    refine tr_val (ov_nilCheck rfl rfl) rfl rfl rfl ?_
    refine tr_val (ov_fieldAddr rfl Try.underlying65 rfl (Try.sizeOf62 _) (by decide) rfl) rfl rfl rfl ?_
    refine tr_val (ov_load_blkP (vs := ds.map ptrN) (H.res0 hb) rfl (Try.isAgg62 _) (Try.sizeOf62 _) (arr_len hds) rfl rfl (cellsW_arr hds)) rfl rfl rfl ?_
    refine tr_val (ov_move rfl rfl) rfl rfl rfl ?_
    refine tr_nil (hK5 _ _ (TrC.keep [20, 19, 14, 5, 4, 0, 1] ?_))
    show TrC _ _ _ _ [(20, _), (19, _), (14, _), (5, _), (4, _), (0, _), (1, _)] _ _
    refine tr_block ?_
    refine tr_loop_ (X := Int) [19, 14, 4, 0, 1] (fun i => [(20, .int .i64 i)]) (fun i w' => 0 ≤ i ∧ i ≤ 4 ∧ (∀ j : Int, 0 ≤ j → j < i → findR id (gt Rs j) = none) ∧ SH w noBlocks [blk b1 30 [.int .u64 0, .int .u64 0, .int .i64 0]] w') (fun i => (4 - i).toNat) (0) (Sub.cons rfl (Sub.cons rfl (Sub.cons rfl (Sub.cons rfl (Sub.cons rfl (Sub.cons rfl Sub.nil)))))) (⟨by omega, by omega, fun j h0 h1 => by omega, H⟩) ?_
    rintro i w3 ⟨hi0, hi1, hn, H⟩ K6 hK6
    show TrC _ _ _ _ [(20, _), (19, _), (14, _), (4, _), (0, _), (1, _)] _ _
    refine tr_seq (fun K7 hK7 => ?_)
    -- region 4: wheel.go:102
    refine tr_region ?_
    refine tr_val (ov_lss rfl rfl rfl) rfl rfl rfl ?_
    refine tr_nil (hK7 _ _ (TrC.keep [21, 20, 19, 14, 4, 0, 1] ?_))
    show TrC _ _ _ _ [(21, _), (20, _), (19, _), (14, _), (4, _), (0, _), (1, _)] _ _
    refine tr_seq (fun K8 hK8 => ?_)
    refine tr_cond rfl (fun c21 => ?_) (fun c21 => ?_)
    · skip
      refine tr_skip (hK8 _ _ (TrC.keep [21, 20, 19, 14, 4, 0, 1] ?_))
      show TrC _ _ _ _ [(21, _), (20, _), (19, _), (14, _), (4, _), (0, _), (1, _)] _ _
      refine tr_seq (fun K9 hK9 => ?_)
      refine tr_block ?_
      refine tr_seq (fun K10 hK10 => ?_)
      -- region 5: wheel.go:102
      refine tr_region ?_
      refine tr_val (ov_indexArr (vs := ds.map ptrN) rfl Try.underlying62 (Try.sizeOf61 _) (Try.isAgg61 _) rfl rfl hi0 (by omega) (arr_at hds hi0 (by omega))) rfl rfl rfl ?_
      refine tr_val (ov_assign rfl rfl) rfl rfl rfl ?_
      refine tr_nil (hK10 _ _ (TrC.keep [7, 21, 20, 19, 14, 4, 0, 1] ?_))
      show TrC _ _ _ _ [(7, _), (21, _), (20, _), (19, _), (14, _), (4, _), (0, _), (1, _)] _ _
      refine tr_seq (fun K11 hK11 => ?_)
      -- region 6: wheel.go:103
      refine tr_region ?_
      refine tr_val (ov_move rfl rfl) rfl rfl rfl ?_
      refine tr_val (ov_move rfl rfl) rfl rfl rfl ?_
      refine tr_call (ringGet_c (gt ds i) (gt Rs i) (gt Ls i) _ (hG.2.2 i hi0 (by omega)) (H.res0 (hr i hi0 (by omega))) id (by have := hW.small hi0 (i := i) (by omega); omega)) rfl rfl rfl Try.call70 rfl rfl rfl ?_
      rintro _ w4 ⟨rfl, HC⟩
      have H := H.call0n HC
      refine tr_val (ov_move rfl rfl) rfl rfl rfl ?_
      refine tr_val (ov_extract rfl rfl rfl) rfl rfl rfl ?_
      refine tr_val (ov_extract rfl rfl rfl) rfl rfl rfl ?_
      refine tr_val (ov_extract rfl rfl rfl) rfl rfl rfl ?_
      refine tr_alloc H rfl (Try.zeroValue30 _) rfl rfl rfl rfl ?_
      intro b2 w5 hb2 H
      (refine tr_storeW H.get0 rfl (Try.sizeOf30 _) rfl rfl rfl rfl rfl rfl rfl rfl ?_; intro w6 U; have H := H.upd0 U; clear U)
      refine tr_val (ov_assign rfl rfl) rfl rfl rfl ?_
      refine tr_val (ov_assign rfl rfl) rfl rfl rfl ?_
      refine tr_nil (hK11 _ _ (TrC.keep [10, 8, 21, 20, 19, 14, 4, 0, 1] ?_))
      show TrC _ _ _ _ [(10, _), (8, _), (21, _), (20, _), (19, _), (14, _), (4, _), (0, _), (1, _)] _ _
      refine tr_seq (fun K12 hK12 => ?_)
      -- region 7: wheel.go:103
      refine tr_region ?_
      refine tr_val (ov_move rfl rfl) rfl rfl rfl ?_
      refine tr_nil (hK12 _ _ (TrC.keep [30, 8, 21, 20, 19, 14, 4, 0, 1] ?_))
      show TrC _ _ _ _ [(30, _), (8, _), (21, _), (20, _), (19, _), (14, _), (4, _), (0, _), (1, _)] _ _
      refine tr_condb rfl (fun c30 => ?_) (fun c30 => ?_)
      · skip
        refine tr_seq (fun K13 hK13 => ?_)
        -- region 8: wheel.go:104
        refine tr_region ?_
        refine tr_val (ov_load_blkN H.get0 rfl (Try.isAgg30 _) (Try.sizeOf30 _) rfl rfl rfl) rfl rfl rfl ?_
        (refine tr_storeW H.get1 rfl (Try.sizeOf30 _) rfl rfl rfl rfl rfl rfl rfl rfl ?_; intro w7 U; have H := H.upd1 U; clear U)
        refine tr_val (ov_assign rfl rfl) rfl rfl rfl ?_
        refine tr_nil (hK13 _ _ (TrC.keep [5, 30, 8, 21, 20, 19, 14, 4, 0, 1] ?_))
        show TrC _ _ _ _ [(5, _), (30, _), (8, _), (21, _), (20, _), (19, _), (14, _), (4, _), (0, _), (1, _)] _ _
        refine tr_ret (post_ret2 (.inr rfl) rfl (by exact ⟨_, rfl, res_blkN H.get1 (Try.isAgg30 _) (Try.sizeOf30 _) rfl rfl⟩) rfl ?_)
        obtain ⟨r, hf⟩ : ∃ r, findR id (gt Rs i) = some r := by cases h : findR id (gt Rs i) with | none => rw [h] at c30; cases c30 | some r => exact ⟨r, rfl⟩
        rw [hf, hW.getRing hi0 (by omega) hf]
        exact ⟨rfl, H.drop0.drop0⟩
      · skip
        refine tr_skip (hK9 _ _ (TrC.keep [30, 8, 21, 20, 19, 14, 4, 0, 1] ?_))
        show TrC _ _ _ _ [(30, _), (8, _), (21, _), (20, _), (19, _), (14, _), (4, _), (0, _), (1, _)] _ _
        -- region 9: wheel.go:102
        refine tr_region ?_
        refine tr_val (ov_add rfl rfl rfl (w64 (by omega))) rfl rfl rfl ?_
        refine tr_val (ov_move rfl rfl) rfl rfl rfl ?_
        skip
        exact tr_nil (hK6 (i + 1) _ _ (⟨by omega, by omega, fun j h0 h1 => by by_cases e : j = i; (subst e; cases hf : findR id (gt Rs j) with | none => rfl | some r => rw [hf] at c30; cases c30); exact hn j h0 (by omega), H.drop0⟩) (by omega) (Sub.cons rfl (Sub.cons rfl (Sub.cons rfl (Sub.cons rfl (Sub.cons rfl (Sub.cons rfl Sub.nil)))))))
    · skip
      refine tr_exit (hK4 _ _ (TrC.keep [21, 20, 19, 14, 4, 0, 1] ?_))
      show TrC _ _ _ _ [(21, _), (20, _), (19, _), (14, _), (4, _), (0, _), (1, _)] _ _
      refine tr_seq (fun K14 hK14 => ?_)
      -- region 10: wheel.go:107
      refine tr_region ?_
      refine tr_val (ov_move rfl rfl) rfl rfl rfl ?_
      refine tr_val (ov_nilCheck rfl rfl) rfl rfl rfl ?_
      refine tr_val (ov_fieldAddr rfl Try.underlying65 rfl (Try.sizeOf63 _) (by decide) rfl) rfl rfl rfl ?_
      refine tr_val (ov_load_blk (H.res0 hb) rfl (Try.isAgg63 _) rfl rfl (cellsW_far hds)) rfl rfl rfl ?_
      refine tr_val (ov_nilCheck rfl rfl) rfl rfl rfl ?_
      refine tr_val (ov_fieldAddr rfl Try.underlying117 rfl (Try.sizeOf71 _) (by decide) rfl) rfl rfl rfl ?_
      refine tr_val (ov_load_blk (H.res0 hf) rfl (Try.isAgg71 _) rfl rfl rfl) rfl rfl rfl ?_
      refine tr_val (ov_move rfl rfl) rfl rfl rfl ?_
      refine tr_val (ov_eq (ov_lookup (H.res0 hm) rfl Try.underlying71 Try.underlying28 (Try.zeroValue30 _) rfl rfl) (show _ = Value.tuple #[.agg #[.int .u64 (tOr (findT id Fv)).id, .int .u64 (tOr (findT id Fv)).gen, .int .i64 (tOr (findT id Fv)).due], .bool ((findT id Fv)).isSome] by rw [hE.find]; cases findT id Fv <;> rfl)) rfl rfl rfl ?_
      refine tr_val (ov_move rfl rfl) rfl rfl rfl ?_
      refine tr_val (ov_extract rfl rfl rfl) rfl rfl rfl ?_
      refine tr_val (ov_extract rfl rfl rfl) rfl rfl rfl ?_
      refine tr_alloc H rfl (Try.zeroValue30 _) rfl rfl rfl rfl ?_
      intro b3 w8 hb3 H
      (refine tr_storeW H.get0 rfl (Try.sizeOf30 _) rfl rfl rfl rfl rfl rfl rfl rfl ?_; intro w9 U; have H := H.upd0 U; clear U)
      refine tr_val (ov_assign rfl rfl) rfl rfl rfl ?_
      refine tr_nil (hK14 _ _ (TrC.keep [12, 11, 21, 20, 19, 14, 4, 0, 1] ?_))
      show TrC _ _ _ _ [(12, _), (11, _), (21, _), (20, _), (19, _), (14, _), (4, _), (0, _), (1, _)] _ _
      refine tr_seq (fun K15 hK15 => ?_)
      -- region 11: wheel.go:108
      refine tr_region ?_
      refine tr_val (ov_load_blkN H.get0 rfl (Try.isAgg30 _) (Try.sizeOf30 _) rfl rfl rfl) rfl rfl rfl ?_
      refine tr_val (ov_move rfl rfl) rfl rfl rfl ?_
      (refine tr_storeW H.get1 rfl (Try.sizeOf30 _) rfl rfl rfl rfl rfl rfl rfl rfl ?_; intro w10 U; have H := H.upd1 U; clear U)
      refine tr_val (ov_assign rfl rfl) rfl rfl rfl ?_
      refine tr_nil (hK15 _ _ (TrC.keep [5, 11, 21, 20, 19, 14, 4, 0, 1] ?_))
      show TrC _ _ _ _ [(5, _), (11, _), (21, _), (20, _), (19, _), (14, _), (4, _), (0, _), (1, _)] _ _
      refine tr_ret (post_ret2 (.inr rfl) rfl (by exact ⟨_, rfl, res_blkN H.get1 (Try.isAgg30 _) (Try.sizeOf30 _) rfl rfl⟩) rfl ?_)
      have hi : i = 4 := by omega
      subst hi
      rw [hW.getFar hn]
      exact ⟨rfl, H.drop0.drop0⟩

/-! (*curfew/wheel.Wheel).Get -/
set_option maxRecDepth 20000 in
theorem wGet_n (p : Option Addr) (w : World) (hp : NoWheel w p) (id : Int) : Does Try.prog 27 #[.pointer p, .int .u64 id] w (fun v w' => v = .tuple #[.agg #[.int .u64 0, .int .u64 0, .int .i64 0], .bool false] ∧ SH w noBlocks [] w') := by
  refine does_enter2 Try.func27 rfl Try.ntmps27 rfl ?_
  have H := SH.start w noBlocks
  refine tr_seq (fun K1 hK1 => ?_)
  -- region 0: wheel.go:98
  refine tr_region ?_
  refine tr_alloc H rfl (Try.zeroValue30 _) rfl rfl rfl rfl ?_
  intro b1 w1 hb1 H
  refine tr_val (ov_assign rfl rfl) rfl rfl rfl ?_
  refine tr_nil (hK1 _ _ (TrC.keep [5, 4, 0, 1] ?_))
  show TrC _ _ _ _ [(5, _), (4, _), (0, _), (1, _)] _ _
  refine tr_seq (fun K2 hK2 => ?_)
  refine tr_seq (fun K3 hK3 => ?_)
  -- region 1: wheel.go:99
  refine tr_region ?_
  refine tr_val (ov_move rfl rfl) rfl rfl rfl ?_
  refine tr_call (wnone_n p _ (hp.later H)) rfl rfl rfl Try.call54 rfl rfl rfl ?_
  rintro _ w2 ⟨rfl, HC⟩
  have H := H.call0n HC
  refine tr_nil (hK3 _ _ (TrC.keep [14, 5, 4, 0, 1] ?_))
  show TrC _ _ _ _ [(14, _), (5, _), (4, _), (0, _), (1, _)] _ _
  refine tr_condb rfl (fun c14 => ?_) (fun c14 => ?_)
  · skip
    refine tr_seq (fun K4 hK4 => ?_)
    -- region 2: wheel.go:100
    refine tr_region ?_
    refine tr_val (ov_build rfl (fun ρ k => bs0 k) (bld30 _)) rfl rfl rfl ?_
    (refine tr_storeW H.get0 rfl (Try.sizeOf30 _) rfl rfl rfl rfl rfl rfl rfl rfl ?_; intro w3 U; have H := H.upd0 U; clear U)
    refine tr_val (ov_assign rfl rfl) rfl rfl rfl ?_
    refine tr_nil (hK4 _ _ (TrC.keep [5, 14, 4, 0, 1] ?_))
    show TrC _ _ _ _ [(5, _), (14, _), (4, _), (0, _), (1, _)] _ _
    refine tr_ret (post_ret2 (.inr rfl) rfl (by exact ⟨_, rfl, res_blkN H.get0 (Try.isAgg30 _) (Try.sizeOf30 _) rfl rfl⟩) rfl ?_)
    exact ⟨rfl, H.drop0⟩
  · cases c14

/-! (*curfew/wheel.Wheel).place -/
set_option maxRecDepth 20000 in
theorem place_c (d : Nat) (now : Int) (ds : List Nat) (f : Nat) (w : World) (hb : (blk d 65 (cellsW now ds f)).holds w) (due : Int) : Does Try.prog 93 #[.pointer (some ⟨d, 0, none⟩), .int .i64 due] w (fun v w' => v = .tuple #[.int .i64 (placeV now due).1, .int .i64 (placeV now due).2] ∧ SH w noBlocks [] w') := by
  refine does_enter2 Try.func93 rfl Try.ntmps93 rfl ?_
  have H := SH.start w noBlocks
  refine tr_seq (fun K1 hK1 => ?_)
  -- region 0: wheel.go:58
  refine tr_region ?_
  refine tr_val (ov_assign rfl rfl) rfl rfl rfl ?_
  refine tr_val (ov_assign rfl rfl) rfl rfl rfl ?_
  refine tr_nil (hK1 _ _ (TrC.keep [5, 4, 0, 1] ?_))
  show TrC _ _ _ _ [(5, _), (4, _), (0, _), (1, _)] _ _
  refine tr_seq (fun K2 hK2 => ?_)
  refine tr_seq (fun K3 hK3 => ?_)
  -- region 1: wheel.go:59
  refine tr_region ?_
  refine tr_val (ov_move rfl rfl) rfl rfl rfl ?_
  refine tr_nil (hK3 _ _ (TrC.keep [6, 5, 4, 0, 1] ?_))
  show TrC _ _ _ _ [(6, _), (5, _), (4, _), (0, _), (1, _)] _ _
  refine tr_block ?_
  refine tr_loop_ (X := Int) [0, 1] (fun i => [(6, .int .i64 i)]) (fun i w' => 0 ≤ i ∧ i ≤ 4 ∧ plcFrom now due i = placeV now due ∧ SH w noBlocks [] w') (fun i => (4 - i).toNat) (0) (Sub.cons rfl (Sub.cons rfl (Sub.cons rfl Sub.nil))) (⟨by omega, by omega, rfl, H⟩) ?_
  rintro i w1 ⟨hi0, hi1, hx, H⟩ K4 hK4
  show TrC _ _ _ _ [(6, _), (0, _), (1, _)] _ _
  refine tr_seq (fun K5 hK5 => ?_)
  -- region 2: wheel.go:59
  refine tr_region ?_
  refine tr_val (ov_lss rfl rfl rfl) rfl rfl rfl ?_
  refine tr_nil (hK5 _ _ (TrC.keep [7, 6, 0, 1] ?_))
  show TrC _ _ _ _ [(7, _), (6, _), (0, _), (1, _)] _ _
  refine tr_seq (fun K6 hK6 => ?_)
  refine tr_cond rfl (fun c7 => ?_) (fun c7 => ?_)
  · skip
    refine tr_skip (hK6 _ _ (TrC.keep [7, 6, 0, 1] ?_))
    show TrC _ _ _ _ [(7, _), (6, _), (0, _), (1, _)] _ _
    refine tr_seq (fun K7 hK7 => ?_)
    refine tr_block ?_
    refine tr_seq (fun K8 hK8 => ?_)
    -- region 3: wheel.go:59
    refine tr_region ?_
    refine tr_val (ov_move rfl rfl) rfl rfl rfl ?_
    refine tr_val (ov_assign rfl rfl) rfl rfl rfl ?_
    refine tr_nil (hK8 _ _ (TrC.keep [4, 7, 6, 0, 1] ?_))
    show TrC _ _ _ _ [(4, _), (7, _), (6, _), (0, _), (1, _)] _ _
    refine tr_seq (fun K9 hK9 => ?_)
    -- region 4: wheel.go:60
    refine tr_quiet mixed (by kernel_rfl) H ?_
    refine tq_val (fun _ H => ov_move rfl rfl) rfl rfl rfl ?_
    refine tq_val (fun _ H => ov_move rfl rfl) rfl rfl rfl ?_
    refine tq_val (fun _ H => ov_nilCheck rfl rfl) rfl rfl rfl ?_
    refine tq_val (fun _ H => ov_fieldAddr rfl Try.underlying65 rfl (Try.sizeOf2 _) (by decide) rfl) rfl rfl rfl ?_
    refine tq_val (fun _ H => ov_load_blk (H.res0 hb) rfl (Try.isAgg2 _) rfl rfl rfl) rfl rfl rfl ?_
    refine tq_val (fun _ H => ov_gtr rfl rfl rfl) rfl rfl rfl ?_
    refine tq_val (fun _ H => ov_move rfl rfl) rfl rfl rfl ?_
    refine tq_split (t := 15) rfl (fun s15 => ?_) (fun s15 => ?_)
    · skip
      refine tq_val (fun _ H => ov_move rfl rfl) rfl rfl rfl ?_
      refine tq_val (fun _ H => ov_move rfl rfl) rfl rfl rfl ?_
      refine tq_val (fun _ H => ov_add rfl rfl rfl (w64 (by omega))) rfl rfl rfl ?_
      refine tq_val (fun _ H => ov_mul rfl rfl rfl (w64 (by omega))) rfl rfl rfl ?_
      refine tq_val (fun _ H => ov_shr rfl rfl rfl (by omega) (shr6 due (by omega) (by omega))) rfl rfl rfl ?_
      refine tq_val (fun _ H => ov_move rfl rfl) rfl rfl rfl ?_
      refine tq_val (fun _ H => ov_nilCheck rfl rfl) rfl rfl rfl ?_
      refine tq_val (fun _ H => ov_fieldAddr rfl Try.underlying65 rfl (Try.sizeOf2 _) (by decide) rfl) rfl rfl rfl ?_
      refine tq_val (fun _ H => ov_load_blk (H.res0 hb) rfl (Try.isAgg2 _) rfl rfl rfl) rfl rfl rfl ?_
      refine tq_val (fun _ H => ov_move rfl rfl) rfl rfl rfl ?_
      refine tq_val (fun _ H => ov_add rfl rfl rfl (w64 (by omega))) rfl rfl rfl ?_
      refine tq_val (fun _ H => ov_mul rfl rfl rfl (w64 (by omega))) rfl rfl rfl ?_
      refine tq_val (fun _ H => ov_shr rfl rfl rfl (by omega) (shr6 now (by omega) (by omega))) rfl rfl rfl ?_
      refine tq_val (fun _ H => ov_eql rfl rfl rfl) rfl rfl rfl ?_
      refine tq_val (fun _ H => ov_pick (vb := undef) rfl rfl rfl rfl) rfl rfl rfl ?_
      refine tq_nil ?_
      intro w2 H
      refine hK9 _ _ (TrC.keep [30, 4, 7, 6, 0, 1] ?_)
      show TrC _ _ _ _ [(30, _), (4, _), (7, _), (6, _), (0, _), (1, _)] _ _
      refine tr_cond rfl (fun c30 => ?_) (fun c30 => ?_)
      · skip
        refine tr_seq (fun K10 hK10 => ?_)
        -- region 5: wheel.go:61
        refine tr_quiet mixed (by kernel_rfl) H ?_
        refine tq_val (fun _ H => ov_move rfl rfl) rfl rfl rfl ?_
        refine tq_val (fun _ H => ov_move rfl rfl) rfl rfl rfl ?_
        refine tq_val (fun _ H => ov_move rfl rfl) rfl rfl rfl ?_
        refine tq_val (fun _ H => ov_mul rfl rfl rfl (w64 (by omega))) rfl rfl rfl ?_
        refine tq_val (fun _ H => ov_shr rfl rfl rfl (by omega) (shr6 due (by omega) (by omega))) rfl rfl rfl ?_
        refine tq_val (fun _ H => ov_and rfl rfl rfl (andI63 _)) rfl rfl rfl ?_
        refine tq_val (fun _ H => ov_assign rfl rfl) rfl rfl rfl ?_
        refine tq_val (fun _ H => ov_assign rfl rfl) rfl rfl rfl ?_
        refine tq_nil ?_
        intro w3 H
        refine hK10 _ _ (TrC.keep [5, 4, 30, 7, 6, 0, 1] ?_)
        show TrC _ _ _ _ [(5, _), (4, _), (30, _), (7, _), (6, _), (0, _), (1, _)] _ _
        refine tr_ret (post_ret2 (.inr rfl) rfl rfl rfl ?_)
        rw [← hx, plc_hit hi0 (by omega) ⟨s15, c30⟩]; exact ⟨rfl, H⟩
      · skip
        refine tr_skip (hK7 _ _ (TrC.keep [30, 4, 7, 6, 0, 1] ?_))
        show TrC _ _ _ _ [(30, _), (4, _), (7, _), (6, _), (0, _), (1, _)] _ _
        -- region 6: wheel.go:59
        refine tr_region ?_
        refine tr_val (ov_add rfl rfl rfl (w64 (by omega))) rfl rfl rfl ?_
        refine tr_val (ov_move rfl rfl) rfl rfl rfl ?_
        skip
        exact tr_nil (hK4 (i + 1) _ _ (⟨by omega, by omega, (plc_miss hi0 (by omega) (fun q => c30 q.2)).symm.trans hx, H⟩) (by omega) (Sub.cons rfl (Sub.cons rfl (Sub.cons rfl Sub.nil))))
    · skip
      refine tq_pass rfl rfl rfl ?_
      refine tq_pass rfl rfl rfl ?_
      refine tq_pass rfl rfl rfl ?_
      refine tq_pass rfl rfl rfl ?_
      refine tq_pass rfl rfl rfl ?_
      refine tq_pass rfl rfl rfl ?_
      refine tq_pass rfl rfl rfl ?_
      refine tq_pass rfl rfl rfl ?_
      refine tq_pass rfl rfl rfl ?_
      refine tq_pass rfl rfl rfl ?_
      refine tq_pass rfl rfl rfl ?_
      refine tq_pass rfl rfl rfl ?_
      refine tq_pass rfl rfl rfl ?_
      refine tq_pass rfl rfl rfl ?_
      refine tq_val (fun _ H => ov_pick_f (va := undef) rfl rfl rfl rfl) rfl rfl rfl ?_
      refine tq_nil ?_
      intro w4 H
      refine hK9 _ _ (TrC.keep [30, 4, 7, 6, 0, 1] ?_)
      show TrC _ _ _ _ [(30, _), (4, _), (7, _), (6, _), (0, _), (1, _)] _ _
      refine tr_cond_f rfl rfl ?_
      refine tr_skip (hK7 _ _ (TrC.keep [30, 4, 7, 6, 0, 1] ?_))
      show TrC _ _ _ _ [(30, _), (4, _), (7, _), (6, _), (0, _), (1, _)] _ _
      -- region 6: wheel.go:59
      refine tr_region ?_
      refine tr_val (ov_add rfl rfl rfl (w64 (by omega))) rfl rfl rfl ?_
      refine tr_val (ov_move rfl rfl) rfl rfl rfl ?_
      skip
      exact tr_nil (hK4 (i + 1) _ _ (⟨by omega, by omega, (plc_miss hi0 (by omega) (fun q => s15 q.1)).symm.trans hx, H⟩) (by omega) (Sub.cons rfl (Sub.cons rfl (Sub.cons rfl Sub.nil))))
  · skip
    refine tr_exit (hK2 _ _ (TrC.keep [7, 6, 0, 1] ?_))
    show TrC _ _ _ _ [(7, _), (6, _), (0, _), (1, _)] _ _
    refine tr_seq (fun K11 hK11 => ?_)
    -- region 7: wheel.go:64
    refine tr_region ?_
    refine tr_val (ov_assign rfl rfl) rfl rfl rfl ?_
    refine tr_val (ov_assign rfl rfl) rfl rfl rfl ?_
    refine tr_nil (hK11 _ _ (TrC.keep [5, 4, 7, 6, 0, 1] ?_))
    show TrC _ _ _ _ [(5, _), (4, _), (7, _), (6, _), (0, _), (1, _)] _ _
    refine tr_ret (post_ret2 (.inr rfl) rfl rfl rfl ?_)
    have hi : i = 4 := by omega
    subst hi
    rw [← hx, plc_end]; exact ⟨rfl, H⟩

/-! (*curfew/wheel.Wheel).put -/
set_option maxRecDepth 20000 in
theorem wput_c (d : Nat) (now : Int) (Rs : List (List RThing)) (Fv : List Thing) (L : List Res) (w : World) (hM : WheelM 65 117 161 30 d now Rs Fv L) (hO : (pack L).holds w) (t : Thing) (hl : Rs.length = 4) (hfr : (placeV now t.due).1 = 4 → findT t.id Fv = none) (hsm : ∀ i : Int, 0 ≤ i → i < 4 → (gt Rs i).length ≤ 60000) : Does Try.prog 55 #[.pointer (some ⟨d, 0, none⟩), .agg #[.int .u64 t.id, .int .u64 t.gen, .int .i64 t.due]] w (fun v w' => ∃ L', WheelM 65 117 161 30 d now (putRs now Rs t) (putFv now Fv t) L' ∧ SH w (pack L).foot [pack L'] w') := by
  refine does_enter2 Try.func55 rfl Try.ntmps55 rfl ?_
  have H := SH.own1 hO
  have hp := place_rng now t.due
  refine tr_seq (fun K1 hK1 => ?_)
  -- region 0: wheel.go:68
  refine tr_region ?_
  refine tr_box H rfl rfl rfl rfl rfl rfl ?_
  intro b1 w1 hb1 H
  refine tr_nil (hK1 _ _ (TrC.keep [3, 0] ?_))
  show TrC _ _ _ _ [(3, _), (0, _)] _ _
  refine tr_seq (fun K2 hK2 => ?_)
  -- region 1: wheel.go:69
  obtain ⟨f, m, ds, E, ck, Ls, hG, hE, rfl⟩ := hM
  have hds := hG.1
  have H := SH.unpackL [_] H
  change SH w _ (blk b1 30 [.int .u64 t.id, .int .u64 t.gen, .int .i64 t.due] :: blk d 65 (cellsW now ds f) :: blk f 117 [.map (some m)] :: mapT m E ck :: Ls.map pack) _ at H
  refine tr_region ?_
  refine tr_val (ov_move rfl rfl) rfl rfl rfl ?_
  refine tr_val (ov_fieldAddr rfl Try.underlying30 rfl (Try.sizeOf2 _) (by decide) rfl) rfl rfl rfl ?_
  refine tr_val (ov_load_blk H.get0 rfl (Try.isAgg2 _) rfl rfl rfl) rfl rfl rfl ?_
  refine tr_call (place_c d now ds f _ H.get1 t.due) rfl rfl rfl Try.call93 rfl rfl rfl ?_
  rintro _ w2 ⟨rfl, HC⟩
  have H := H.call0n HC
  refine tr_val (ov_move rfl rfl) rfl rfl rfl ?_
  refine tr_val (ov_extract rfl rfl rfl) rfl rfl rfl ?_
  refine tr_val (ov_extract rfl rfl rfl) rfl rfl rfl ?_
  refine tr_val (ov_assign rfl rfl) rfl rfl rfl ?_
  refine tr_val (ov_assign rfl rfl) rfl rfl rfl ?_
  refine tr_nil (hK2 _ _ (TrC.keep [5, 4, 3, 0] ?_))
  show TrC _ _ _ _ [(5, _), (4, _), (3, _), (0, _)] _ _
  refine tr_seq (fun K3 hK3 => ?_)
  refine tr_seq (fun K4 hK4 => ?_)
  -- region 2: wheel.go:70
  refine tr_region ?_
  refine tr_val (ov_move rfl rfl) rfl rfl rfl ?_
  refine tr_val (ov_eql rfl rfl rfl) rfl rfl rfl ?_
  refine tr_nil (hK4 _ _ (TrC.keep [14, 5, 4, 3, 0] ?_))
  show TrC _ _ _ _ [(14, _), (5, _), (4, _), (3, _), (0, _)] _ _
  refine tr_cond rfl (fun c14 => ?_) (fun c14 => ?_)
  · skip
    refine tr_seq (fun K5 hK5 => ?_)
    -- region 3: wheel.go:71
    have hmf : mfind t.id E = none := by rw [hE.find]; exact hfr c14
    refine tr_held (fun w' => (blk b1 30 [.int .u64 t.id, .int .u64 t.gen, .int .i64 t.due]).holds w' ∧ (blk d 65 (cellsW now ds f)).holds w' ∧ (blk f 117 [.map (some m)]).holds w') mixed rfl H ?_
    intro w3 H
    refine th_take 0 rfl (by kernel_rfl) (by kernel_rfl) (by kernel_rfl) (⟨H.get0, H.get1, H.get2⟩) (fun _ hS => ov_move rfl rfl) rfl rfl rfl ?_
    refine th_take 1 rfl (by kernel_rfl) (by kernel_rfl) (by kernel_rfl) (⟨H.get0, H.get1, H.get2⟩) (fun _ hS => ov_nilCheck rfl rfl) rfl rfl rfl ?_
    refine th_take 2 rfl (by kernel_rfl) (by kernel_rfl) (by kernel_rfl) (⟨H.get0, H.get1, H.get2⟩) (fun _ hS => ov_fieldAddr rfl Try.underlying65 rfl (Try.sizeOf63 _) (by decide) rfl) rfl rfl rfl ?_
    refine th_take 3 rfl (by kernel_rfl) (by kernel_rfl) (by kernel_rfl) (⟨H.get0, H.get1, H.get2⟩) (fun _ hS => ov_load_blk hS.2.1 rfl (Try.isAgg63 _) rfl rfl (cellsW_far hds)) rfl rfl rfl ?_
    refine th_take 4 rfl (by kernel_rfl) (by kernel_rfl) (by kernel_rfl) (⟨H.get0, H.get1, H.get2⟩) (fun _ hS => ov_nilCheck rfl rfl) rfl rfl rfl ?_
    refine th_take 5 rfl (by kernel_rfl) (by kernel_rfl) (by kernel_rfl) (⟨H.get0, H.get1, H.get2⟩) (fun _ hS => ov_fieldAddr rfl Try.underlying117 rfl (Try.sizeOf71 _) (by decide) rfl) rfl rfl rfl ?_
    refine th_take 6 rfl (by kernel_rfl) (by kernel_rfl) (by kernel_rfl) (⟨H.get0, H.get1, H.get2⟩) (fun _ hS => ov_load_blk hS.2.2 rfl (Try.isAgg71 _) rfl rfl rfl) rfl rfl rfl ?_
    refine th_take 7 rfl (by kernel_rfl) (by kernel_rfl) (by kernel_rfl) (⟨H.get0, H.get1, H.get2⟩) (fun _ hS => ov_fieldAddr rfl Try.underlying30 rfl (Try.sizeOf28 _) (by decide) rfl) rfl rfl rfl ?_
    refine th_take 8 rfl (by kernel_rfl) (by kernel_rfl) (by kernel_rfl) (⟨H.get0, H.get1, H.get2⟩) (fun _ hS => ov_load_blk hS.1 rfl (Try.isAgg28 _) rfl rfl rfl) rfl rfl rfl ?_
    refine th_take 9 rfl (by kernel_rfl) (by kernel_rfl) (by kernel_rfl) (⟨H.get0, H.get1, H.get2⟩) (fun _ hS => ov_load_blkN hS.1 rfl (Try.isAgg30 _) (Try.sizeOf30 _) rfl rfl rfl) rfl rfl rfl ?_
    refine th_one 10 (by kernel_rfl) ?_
    refine tw_mapNew (u := t) H.get3 rfl hmf rfl Try.underlying71 Try.underlying28 rfl rfl rfl rfl rfl ?_
    intro w9 U; have H := H.upd3 U; clear U
    refine ⟨⟨H.get0, H.get1, H.get2⟩, ?_⟩
    refine th_done (by kernel_rfl) ?_
    refine hK5 _ _ (TrC.keep [14, 5, 4, 3, 0] ?_)
    show TrC _ _ _ _ [(14, _), (5, _), (4, _), (3, _), (0, _)] _ _
    refine tr_ret (post_ret0 (.inr rfl) rfl  ?_)
    unfold putRs putFv; rw [if_pos c14, if_pos c14]
    exact ⟨_, ⟨f, m, ds, _, _, Ls, hG, hE.put t, rfl⟩, SH.pack1 H.drop0⟩
  · skip
    refine tr_skip (hK3 _ _ (TrC.keep [14, 5, 4, 3, 0] ?_))
    show TrC _ _ _ _ [(14, _), (5, _), (4, _), (3, _), (0, _)] _ _
    -- region 4: wheel.go:74
    refine tr_held (fun w' => (blk b1 30 [.int .u64 t.id, .int .u64 t.gen, .int .i64 t.due]).holds w' ∧ (blk d 65 (cellsW now ds f)).holds w') mixed rfl H ?_
    intro w4 H
    refine th_take 0 rfl (by kernel_rfl) (by kernel_rfl) (by kernel_rfl) (⟨H.get0, H.get1⟩) (fun _ hS => ov_move rfl rfl) rfl rfl rfl ?_
    refine th_take 1 rfl (by kernel_rfl) (by kernel_rfl) (by kernel_rfl) (⟨H.get0, H.get1⟩) (fun _ hS => ov_move rfl rfl) rfl rfl rfl ?_
    refine th_take 2 rfl (by kernel_rfl) (by kernel_rfl) (by kernel_rfl) (⟨H.get0, H.get1⟩) (fun _ hS => ov_nilCheck rfl rfl) rfl rfl rfl ?_
    refine th_take 3 rfl (by kernel_rfl) (by kernel_rfl) (by kernel_rfl) (⟨H.get0, H.get1⟩) (fun _ hS => ov_fieldAddr rfl Try.underlying65 rfl (Try.sizeOf62 _) (by decide) rfl) rfl rfl rfl ?_
    refine th_take 4 rfl (by kernel_rfl) (by kernel_rfl) (by kernel_rfl) (⟨H.get0, H.get1⟩) (fun _ hS => ov_indexAddrA rfl Try.underlying62 (Try.sizeOf61 _) rfl rfl (by omega) (by omega)) rfl rfl rfl ?_
    refine th_take 5 rfl (by kernel_rfl) (by kernel_rfl) (by kernel_rfl) (⟨H.get0, H.get1⟩) (fun _ hS => ov_load_blk hS.2 rfl (Try.isAgg61 _) rfl (adr_ring d (placeV now t.due).1.toNat) (cellsW_ring hds (by omega) (by omega))) rfl rfl rfl ?_
    refine th_take 6 rfl (by kernel_rfl) (by kernel_rfl) (by kernel_rfl) (⟨H.get0, H.get1⟩) (fun _ hS => ov_move rfl rfl) rfl rfl rfl ?_
    refine th_take 7 rfl (by kernel_rfl) (by kernel_rfl) (by kernel_rfl) (⟨H.get0, H.get1⟩) (fun _ hS => ov_load_blkN hS.1 rfl (Try.isAgg30 _) (Try.sizeOf30 _) rfl rfl rfl) rfl rfl rfl ?_
    refine th_one 8 (by kernel_rfl) ?_
    refine tw_call (ringPut_c (gt ds (placeV now t.due).1) (gt Rs (placeV now t.due).1) (gt Ls (placeV now t.due).1) _ (hG.2.2 _ (by omega) (by omega)) (SH.atGet [_, _, _, _] H (by omega) (by rw [hG.2.1]; omega)) (placeV now t.due).2 t (by have := hsm (placeV now t.due).1 (by omega) (by omega); omega)) rfl rfl rfl rfl Try.call94 rfl rfl rfl ?_
    rintro _ w5 ⟨rfl, L1, hL1, HC⟩
    have H := SH.atCall (f := pack) [_, _, _, _] L1 [] H (by omega) (by rw [hG.2.1]; omega) HC
    refine ⟨⟨H.get0, H.get1⟩, ?_⟩
    refine th_done (by kernel_rfl) ?_
    refine id (post_ret0 (.inl rfl) rfl  ?_)
    unfold putRs putFv; rw [if_neg c14, if_neg c14]
    exact ⟨_, ⟨f, m, ds, E, ck, _, hG.set (by omega) (by omega) hl hL1, hE, rfl⟩, SH.pack1 H.drop0⟩

/-! (*curfew/wheel.Wheel).Arm -/
set_option maxRecDepth 20000 in
theorem wArm_c (d : Nat) (now : Int) (X : List Thing) (L : List Res) (w : World) (hX : WheelX 65 117 161 30 d now X L) (hO : (pack L).holds w) (t : Thing) : Does Try.prog 15 #[.pointer (some ⟨d, 0, none⟩), .agg #[.int .u64 t.id, .int .u64 t.gen, .int .i64 t.due]] w (fun v w' => v = .int .i64 (armV X t).2 ∧ ∃ L', WheelX 65 117 161 30 d now (armV X t).1 L' ∧ SH w (pack L).foot [pack L'] w') := by
  refine does_enter2 Try.func15 rfl Try.ntmps15 rfl ?_
  have H := SH.own1 hO
  refine tr_seq (fun K1 hK1 => ?_)
  -- region 0: wheel.go:112
  refine tr_region ?_
  refine tr_box H rfl rfl rfl rfl rfl rfl ?_
  intro b1 w1 hb1 H
  refine tr_val (ov_assign rfl rfl) rfl rfl rfl ?_
  refine tr_nil (hK1 _ _ (TrC.keep [4, 3, 0] ?_))
  show TrC _ _ _ _ [(4, _), (3, _), (0, _)] _ _
  refine tr_seq (fun K2 hK2 => ?_)
  refine tr_block ?_
  refine tr_seq (fun K3 hK3 => ?_)
  -- region 1: wheel.go:114
  refine tr_region ?_
  refine tr_val (ov_move rfl rfl) rfl rfl rfl ?_
  refine tr_call ((by obtain ⟨Rs, Fv, _, hM⟩ := hX; exact wnone_c d now Rs Fv L _ hM H.get1 : Does Try.prog 54 #[.pointer (some ⟨d, 0, none⟩)] _ (fun v w' => v = .bool false ∧ SH _ noBlocks [] w'))) rfl rfl rfl Try.call54 rfl rfl rfl ?_
  rintro _ w2 ⟨rfl, HC⟩
  have H := H.call0n HC
  refine tr_val (ov_assign rfl rfl) rfl rfl rfl ?_
  refine tr_nil (hK3 _ _ (TrC.keep [7, 4, 3, 0] ?_))
  show TrC _ _ _ _ [(7, _), (4, _), (3, _), (0, _)] _ _
  refine tr_condb rfl (fun c7 => ?_) (fun c7 => ?_)
  · cases c7
  · skip
    refine tr_seq (fun K4 hK4 => ?_)
    -- region 3: wheel.go:116
    refine tr_region ?_
    refine tr_val (ov_fieldAddr rfl Try.underlying30 rfl (Try.sizeOf2 _) (by decide) rfl) rfl rfl rfl ?_
    refine tr_val (ov_load_blk H.get0 rfl (Try.isAgg2 _) rfl rfl rfl) rfl rfl rfl ?_
    refine tr_call (instW_c t.due _) rfl rfl rfl Try.call52 rfl rfl rfl ?_
    rintro _ w3 ⟨rfl, HC⟩
    have H := H.call0n HC
    refine tr_val (ov_not rfl rfl) rfl rfl rfl ?_
    refine tr_val (ov_assign rfl rfl) rfl rfl rfl ?_
    refine tr_nil (hK4 _ _ (TrC.keep [10, 7, 4, 3, 0] ?_))
    show TrC _ _ _ _ [(10, _), (7, _), (4, _), (3, _), (0, _)] _ _
    refine tr_cond rfl (fun c10 => ?_) (fun c10 => ?_)
    · skip
      refine tr_seq (fun K5 hK5 => ?_)
      -- region 4: wheel.go:117
      refine tr_region ?_
      refine tr_val (ov_assign rfl rfl) rfl rfl rfl ?_
      refine tr_nil (hK5 _ _ (TrC.keep [4, 10, 7, 3, 0] ?_))
      show TrC _ _ _ _ [(4, _), (10, _), (7, _), (3, _), (0, _)] _ _
      refine tr_ret (post_ret1 (.inr rfl) rfl rfl ?_)
      unfold armV; rw [if_pos (by omega)]; exact ⟨rfl, L, hX, H.drop0⟩
    · skip
      refine tr_skip (hK2 _ _ (TrC.keep [10, 7, 4, 3, 0] ?_))
      show TrC _ _ _ _ [(10, _), (7, _), (4, _), (3, _), (0, _)] _ _
      refine tr_seq (fun K6 hK6 => ?_)
      refine tr_seq (fun K7 hK7 => ?_)
      -- region 5: wheel.go:119
      refine tr_region ?_
      refine tr_val (ov_move rfl rfl) rfl rfl rfl ?_
      refine tr_val (ov_fieldAddr rfl Try.underlying30 rfl (Try.sizeOf28 _) (by decide) rfl) rfl rfl rfl ?_
      refine tr_val (ov_load_blk H.get0 rfl (Try.isAgg28 _) rfl rfl rfl) rfl rfl rfl ?_
      refine tr_call (wGet_c d now X L _ hX H.get1 t.id) rfl rfl rfl Try.call27 rfl rfl rfl ?_
      rintro _ w4 ⟨rfl, HC⟩
      have H := H.call0n HC
      refine tr_val (ov_move rfl rfl) rfl rfl rfl ?_
      refine tr_val (ov_extract rfl rfl rfl) rfl rfl rfl ?_
      refine tr_val (ov_extract rfl rfl rfl) rfl rfl rfl ?_
      refine tr_alloc H rfl (Try.zeroValue30 _) rfl rfl rfl rfl ?_
      intro b2 w5 hb2 H
      (refine tr_storeW H.get0 rfl (Try.sizeOf30 _) rfl rfl rfl rfl rfl rfl rfl rfl ?_; intro w6 U; have H := H.upd0 U; clear U)
      refine tr_val (ov_assign rfl rfl) rfl rfl rfl ?_
      refine tr_nil (hK7 _ _ (TrC.keep [6, 10, 7, 4, 3, 0] ?_))
      show TrC _ _ _ _ [(6, _), (10, _), (7, _), (4, _), (3, _), (0, _)] _ _
      refine tr_seq (fun K8 hK8 => ?_)
      -- region 6: wheel.go:119
      refine tr_region ?_
      refine tr_val (ov_move rfl rfl) rfl rfl rfl ?_
      refine tr_nil (hK8 _ _ (TrC.keep [22, 10, 7, 4, 3, 0] ?_))
      show TrC _ _ _ _ [(22, _), (10, _), (7, _), (4, _), (3, _), (0, _)] _ _
      refine tr_condb rfl (fun c22 => ?_) (fun c22 => ?_)
      · skip
        refine tr_seq (fun K9 hK9 => ?_)
        -- region 7: wheel.go:120
        refine tr_region ?_
        refine tr_val (ov_assign rfl rfl) rfl rfl rfl ?_
        refine tr_nil (hK9 _ _ (TrC.keep [4, 22, 10, 7, 3, 0] ?_))
        show TrC _ _ _ _ [(4, _), (22, _), (10, _), (7, _), (3, _), (0, _)] _ _
        refine tr_ret (post_ret1 (.inr rfl) rfl rfl ?_)
        unfold armV; rw [if_neg (by omega), if_pos c22]; exact ⟨rfl, L, hX, H.drop0.drop0⟩
      · skip
        refine tr_skip (hK6 _ _ (TrC.keep [22, 10, 7, 4, 3, 0] ?_))
        show TrC _ _ _ _ [(22, _), (10, _), (7, _), (4, _), (3, _), (0, _)] _ _
        refine tr_seq (fun K10 hK10 => ?_)
        refine tr_seq (fun K11 hK11 => ?_)
        -- region 8: wheel.go:122
        refine tr_region ?_
        refine tr_val (ov_move rfl rfl) rfl rfl rfl ?_
        refine tr_call (wLen_c d now X L _ hX H.get2) rfl rfl rfl Try.call20 rfl rfl rfl ?_
        rintro _ w7 ⟨rfl, HC⟩
        have H := H.call0n HC
        refine tr_val (ov_geq rfl rfl rfl) rfl rfl rfl ?_
        refine tr_nil (hK11 _ _ (TrC.keep [25, 22, 10, 7, 4, 3, 0] ?_))
        show TrC _ _ _ _ [(25, _), (22, _), (10, _), (7, _), (4, _), (3, _), (0, _)] _ _
        refine tr_cond rfl (fun c25 => ?_) (fun c25 => ?_)
        · skip
          refine tr_seq (fun K12 hK12 => ?_)
          -- region 9: wheel.go:123
          refine tr_region ?_
          refine tr_val (ov_assign rfl rfl) rfl rfl rfl ?_
          refine tr_nil (hK12 _ _ (TrC.keep [4, 25, 22, 10, 7, 3, 0] ?_))
          show TrC _ _ _ _ [(4, _), (25, _), (22, _), (10, _), (7, _), (3, _), (0, _)] _ _
          refine tr_ret (post_ret1 (.inr rfl) rfl rfl ?_)
          unfold armV; rw [if_neg (by omega), if_neg (by rw [c22]; decide), if_pos (by omega)]; exact ⟨rfl, L, hX, H.drop0.drop0⟩
        · skip
          refine tr_skip (hK10 _ _ (TrC.keep [25, 22, 10, 7, 4, 3, 0] ?_))
          show TrC _ _ _ _ [(25, _), (22, _), (10, _), (7, _), (4, _), (3, _), (0, _)] _ _
          refine tr_seq (fun K13 hK13 => ?_)
          -- region 10: wheel.go:125
          have hn : findT t.id X = none := by cases h : findT t.id X with | none => rfl | some u => rw [h] at c22; cases c22
          obtain ⟨Rs, Fv, hW, hM⟩ := hX
          refine tr_region ?_
          refine tr_val (ov_move rfl rfl) rfl rfl rfl ?_
          refine tr_val (ov_load_blkN H.get1 rfl (Try.isAgg30 _) (Try.sizeOf30 _) rfl rfl rfl) rfl rfl rfl ?_
          refine tr_call (wput_c d now Rs Fv L _ hM H.get2 t hW.len (fun _ => hW.farNone hn) (fun i h0 h1 => by have := hW.small h0 h1; omega)) rfl rfl rfl Try.call55 rfl rfl rfl ?_
          rintro _ w8 ⟨L1, hL1, HC⟩
          have H := H.top2.call1 HC
          refine tr_nil (hK13 _ _ (TrC.keep [25, 22, 10, 7, 4, 3, 0] ?_))
          show TrC _ _ _ _ [(25, _), (22, _), (10, _), (7, _), (4, _), (3, _), (0, _)] _ _
          refine tr_seq (fun K14 hK14 => ?_)
          -- region 11: wheel.go:126
          refine tr_region ?_
          refine tr_val (ov_assign rfl rfl) rfl rfl rfl ?_
          refine tr_nil (hK14 _ _ (TrC.keep [4, 25, 22, 10, 7, 3, 0] ?_))
          show TrC _ _ _ _ [(4, _), (25, _), (22, _), (10, _), (7, _), (3, _), (0, _)] _ _
          refine tr_ret (post_ret1 (.inr rfl) rfl rfl ?_)
          unfold armV; rw [if_neg (by omega), if_neg (by rw [c22]; decide), if_neg (by omega)]; exact ⟨rfl, L1, ⟨_, _, hW.arm hn (by omega) (by omega), hL1⟩, H.drop1.drop1⟩

/-! (*curfew/wheel.Wheel).Arm -/
set_option maxRecDepth 20000 in
theorem wArm_n (p : Option Addr) (w : World) (hp : NoWheel w p) (t : Thing) : Does Try.prog 15 #[.pointer p, .agg #[.int .u64 t.id, .int .u64 t.gen, .int .i64 t.due]] w (fun v w' => v = .int .i64 1 ∧ SH w noBlocks [] w') := by
  refine does_enter2 Try.func15 rfl Try.ntmps15 rfl ?_
  have H := SH.start w noBlocks
  refine tr_seq (fun K1 hK1 => ?_)
  -- region 0: wheel.go:112
  refine tr_region ?_
  refine tr_box H rfl rfl rfl rfl rfl rfl ?_
  intro b1 w1 hb1 H
  refine tr_val (ov_assign rfl rfl) rfl rfl rfl ?_
  refine tr_nil (hK1 _ _ (TrC.keep [4, 3, 0] ?_))
  show TrC _ _ _ _ [(4, _), (3, _), (0, _)] _ _
  refine tr_seq (fun K2 hK2 => ?_)
  refine tr_block ?_
  refine tr_seq (fun K3 hK3 => ?_)
  -- region 1: wheel.go:114
  refine tr_region ?_
  refine tr_val (ov_move rfl rfl) rfl rfl rfl ?_
  refine tr_call (wnone_n p _ (hp.later H)) rfl rfl rfl Try.call54 rfl rfl rfl ?_
  rintro _ w2 ⟨rfl, HC⟩
  have H := H.call0n HC
  refine tr_val (ov_assign rfl rfl) rfl rfl rfl ?_
  refine tr_nil (hK3 _ _ (TrC.keep [7, 4, 3, 0] ?_))
  show TrC _ _ _ _ [(7, _), (4, _), (3, _), (0, _)] _ _
  refine tr_condb rfl (fun c7 => ?_) (fun c7 => ?_)
  · skip
    refine tr_seq (fun K4 hK4 => ?_)
    -- region 2: wheel.go:115
    refine tr_region ?_
    refine tr_val (ov_assign rfl rfl) rfl rfl rfl ?_
    refine tr_nil (hK4 _ _ (TrC.keep [4, 7, 3, 0] ?_))
    show TrC _ _ _ _ [(4, _), (7, _), (3, _), (0, _)] _ _
    refine tr_ret (post_ret1 (.inr rfl) rfl rfl ?_)
    exact ⟨rfl, H.drop0⟩
  · cases c7

end Go.Proofs.Ytblipnjjgbggiaa
