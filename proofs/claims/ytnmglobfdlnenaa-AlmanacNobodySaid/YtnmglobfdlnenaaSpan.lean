/- Contracts of the package span, of curfewref07, and of what they call, part 1. Conditions: none. -/
import Derived.Test.YtnmglobfdlnenaaSp
import Derived.Test.YtnmglobfdlnenaaFacts
import Derived.Laws.StructEq
namespace Go.Proofs.Ytnmglobfdlnenaa
open Go Go.RowKit
set_option linter.unusedVariables false
set_option linter.unusedSimpArgs false

theorem fields40 : Try.prog.fieldsOf 40 = #[{ name := "From", type := 2, offset := 0, embedded := false, tag := "", pkgPath := "", byteOffset := 0 },
        { name := "To", type := 2, offset := 1, embedded := false, tag := "", pkgPath := "", byteOffset := 8 }] := by unfold Program.fieldsOf; rw [Try.underlying40]
theorem run_eq40 (a b c d : Int) (w : World) : (Op.equalIn 10000 40 (.agg #[.int .i64 a, .int .i64 b]) (.agg #[.int .i64 c, .int .i64 d])).run Try.prog w = .ok (decide (((a, b) : Int × Int) = (c, d))) w := by
  rw [run_equalIn_struct w 9999 40 _ _ (by rw [fields40]; exact Try.underlying40) Try.stoodInHeld40, fields40]
  simp [Op.eqFields, part, Try.isAgg2, run_equalIn_int w _ 2 .i64 .i64 _ _ Try.underlying2]
  by_cases h : a = c <;> by_cases h2 : b = d <;> simp [h, h2]
theorem ov_eqSp {l : List (Nat × Value)} {w : World} {o : Oper} {x y : Operand} {u : TypeId} {s t : Sp} (ho : o.op = .binOp .eql 40 x y u) (hx : ev l x = some (.agg #[.int .i64 s.1, .int .i64 s.2])) (hy : ev l y = some (.agg #[.int .i64 t.1, .int .i64 t.2])) : OpV Try.prog l w o (.bool (decide (s = t))) := by
  intro ρ k
  simp [execOp, ho, k _ _ hx, k _ _ hy, run_eqGuard_agg, Try.eqGuardType40, run_eql_struct, run_eq40]
  rw [Bool.eq_iff_iff]; simp [Prod.ext_iff]
theorem ov_neSp {l : List (Nat × Value)} {w : World} {o : Oper} {x y : Operand} {u : TypeId} {s t : Sp} (ho : o.op = .binOp .neq 40 x y u) (hx : ev l x = some (.agg #[.int .i64 s.1, .int .i64 s.2])) (hy : ev l y = some (.agg #[.int .i64 t.1, .int .i64 t.2])) : OpV Try.prog l w o (.bool (decide (¬ s = t))) := by
  intro ρ k
  simp [execOp, ho, k _ _ hx, k _ _ hy, run_eqGuard_agg, Try.eqGuardType40, run_neq_struct, run_eq40]
  rw [Bool.eq_iff_iff]; simp [Prod.ext_iff]

/-! curfew/span.Right -/
set_option maxRecDepth 20000 in
theorem Right_c (s : Sp) (w : World) : Does Try.prog 35 #[.agg #[.int .i64 s.1, .int .i64 s.2]] w (fun v w' => v = .bool (decide (RightP s)) ∧ SH w noBlocks [] w') := by
  refine does_enter1 Try.func35 rfl Try.ntmps35 rfl ?_
  have H := SH.start w noBlocks
  refine tr_seq (fun K1 hK1 => ?_)
  -- region 0: span.go:11
  refine tr_region ?_
  refine tr_box H rfl rfl rfl rfl rfl rfl ?_
  intro b1 w1 hb1 H
  refine tr_val (ov_assign rfl rfl) rfl rfl rfl ?_
  refine tr_nil (hK1 _ _ (TrC.keep [2, 1] ?_))
  show TrC _ _ _ _ [(2, _), (1, _)] _ _
  refine tr_seq (fun K2 hK2 => ?_)
  -- region 1: span.go:11
  refine tr_cut [] [(2, .bool (decide (RightP s)))] (fun w' => SH w noBlocks [] w') (fun K3 hK3 => ?_) (fun w2 H => ?_)
  · skip
    refine tr_val (ov_fieldAddr rfl Try.underlying40 rfl (Try.sizeOf2 _) (by decide) rfl) rfl rfl rfl ?_
    first | refine tr_val (ov_load_blk H.get0 rfl (Try.isAgg2 _) rfl rfl rfl) rfl rfl rfl ?_ | refine tr_val (ov_load_blk H.get1 rfl (Try.isAgg2 _) rfl rfl rfl) rfl rfl rfl ?_ | refine tr_val (ov_load_blk H.get2 rfl (Try.isAgg2 _) rfl rfl rfl) rfl rfl rfl ?_ | refine tr_val (ov_load_blk H.get3 rfl (Try.isAgg2 _) rfl rfl rfl) rfl rfl rfl ?_ | refine tr_val (ov_load_blk H.get4 rfl (Try.isAgg2 _) rfl rfl rfl) rfl rfl rfl ?_ | refine tr_val (ov_load_blk H.get5 rfl (Try.isAgg2 _) rfl rfl rfl) rfl rfl rfl ?_
    refine tr_val (ov_geq rfl rfl rfl) rfl rfl rfl ?_
    refine tr_val (ov_move rfl rfl) rfl rfl rfl ?_
    first | refine tr_split (t := 6) rfl (fun s6 => ?_) (fun s6 => ?_) | refine tr_splitb (t := 6) rfl (fun s6 => ?_) (fun s6 => ?_)
    · skip
      refine tr_val (ov_fieldAddr rfl Try.underlying40 rfl (Try.sizeOf2 _) (by decide) rfl) rfl rfl rfl ?_
      first | refine tr_val (ov_load_blk H.get0 rfl (Try.isAgg2 _) rfl rfl rfl) rfl rfl rfl ?_ | refine tr_val (ov_load_blk H.get1 rfl (Try.isAgg2 _) rfl rfl rfl) rfl rfl rfl ?_ | refine tr_val (ov_load_blk H.get2 rfl (Try.isAgg2 _) rfl rfl rfl) rfl rfl rfl ?_ | refine tr_val (ov_load_blk H.get3 rfl (Try.isAgg2 _) rfl rfl rfl) rfl rfl rfl ?_ | refine tr_val (ov_load_blk H.get4 rfl (Try.isAgg2 _) rfl rfl rfl) rfl rfl rfl ?_ | refine tr_val (ov_load_blk H.get5 rfl (Try.isAgg2 _) rfl rfl rfl) rfl rfl rfl ?_
      refine tr_val (ov_fieldAddr rfl Try.underlying40 rfl (Try.sizeOf2 _) (by decide) rfl) rfl rfl rfl ?_
      first | refine tr_val (ov_load_blk H.get0 rfl (Try.isAgg2 _) rfl rfl rfl) rfl rfl rfl ?_ | refine tr_val (ov_load_blk H.get1 rfl (Try.isAgg2 _) rfl rfl rfl) rfl rfl rfl ?_ | refine tr_val (ov_load_blk H.get2 rfl (Try.isAgg2 _) rfl rfl rfl) rfl rfl rfl ?_ | refine tr_val (ov_load_blk H.get3 rfl (Try.isAgg2 _) rfl rfl rfl) rfl rfl rfl ?_ | refine tr_val (ov_load_blk H.get4 rfl (Try.isAgg2 _) rfl rfl rfl) rfl rfl rfl ?_ | refine tr_val (ov_load_blk H.get5 rfl (Try.isAgg2 _) rfl rfl rfl) rfl rfl rfl ?_
      refine tr_val (ov_lss rfl rfl rfl) rfl rfl rfl ?_
      refine tr_val (ov_pick (vb := undef) rfl rfl rfl rfl) rfl rfl rfl ?_
      refine tr_val (ov_move rfl rfl) rfl rfl rfl ?_
      first | refine tr_split (t := 13) rfl (fun s13 => ?_) (fun s13 => ?_) | refine tr_splitb (t := 13) rfl (fun s13 => ?_) (fun s13 => ?_)
      · skip
        refine tr_val (ov_fieldAddr rfl Try.underlying40 rfl (Try.sizeOf2 _) (by decide) rfl) rfl rfl rfl ?_
        first | refine tr_val (ov_load_blk H.get0 rfl (Try.isAgg2 _) rfl rfl rfl) rfl rfl rfl ?_ | refine tr_val (ov_load_blk H.get1 rfl (Try.isAgg2 _) rfl rfl rfl) rfl rfl rfl ?_ | refine tr_val (ov_load_blk H.get2 rfl (Try.isAgg2 _) rfl rfl rfl) rfl rfl rfl ?_ | refine tr_val (ov_load_blk H.get3 rfl (Try.isAgg2 _) rfl rfl rfl) rfl rfl rfl ?_ | refine tr_val (ov_load_blk H.get4 rfl (Try.isAgg2 _) rfl rfl rfl) rfl rfl rfl ?_ | refine tr_val (ov_load_blk H.get5 rfl (Try.isAgg2 _) rfl rfl rfl) rfl rfl rfl ?_
        refine tr_val (ov_leq rfl rfl rfl) rfl rfl rfl ?_
        refine tr_val (ov_pick (vb := undef) rfl rfl rfl rfl) rfl rfl rfl ?_
        refine tr_val (ov_assign rfl rfl) rfl rfl rfl ?_
        exact tr_nil (hK3 _ _ (Sub.consE rfl (congrArg Value.bool (by first | exact eqT (by unfold RightP; omega) | exact eqF (by unfold RightP; omega) | exact eqI (by unfold RightP; omega))) Sub.nil) (H.drop0))
      · skip
        refine tr_pass rfl rfl rfl ?_
        refine tr_pass rfl rfl rfl ?_
        refine tr_pass rfl rfl rfl ?_
        refine tr_val (ov_pick_f (va := undef) rfl rfl rfl rfl) rfl rfl rfl ?_
        refine tr_val (ov_assign rfl rfl) rfl rfl rfl ?_
        exact tr_nil (hK3 _ _ (Sub.consE rfl (congrArg Value.bool (by first | exact eqT (by unfold RightP; omega) | exact eqF (by unfold RightP; omega) | exact eqI (by unfold RightP; omega))) Sub.nil) (H.drop0))
    · skip
      refine tr_pass rfl rfl rfl ?_
      refine tr_pass rfl rfl rfl ?_
      refine tr_pass rfl rfl rfl ?_
      refine tr_pass rfl rfl rfl ?_
      refine tr_pass rfl rfl rfl ?_
      refine tr_val (ov_pick_f (va := undef) rfl rfl rfl rfl) rfl rfl rfl ?_
      refine tr_val (ov_move rfl rfl) rfl rfl rfl ?_
      refine tr_pass rfl rfl rfl ?_
      refine tr_pass rfl rfl rfl ?_
      refine tr_pass rfl rfl rfl ?_
      refine tr_val (ov_pick_f (va := undef) rfl rfl rfl rfl) rfl rfl rfl ?_
      refine tr_val (ov_assign rfl rfl) rfl rfl rfl ?_
      exact tr_nil (hK3 _ _ (Sub.consE rfl (congrArg Value.bool (by first | exact eqT (by unfold RightP; omega) | exact eqF (by unfold RightP; omega) | exact eqI (by unfold RightP; omega))) Sub.nil) (H.drop0))
  · skip
    refine hK2 _ _ (TrC.keep [2] ?_)
    show TrC _ _ _ _ [(2, _)] _ _
    refine tr_ret (post_ret1 (.inr rfl) rfl rfl ?_)
    exact ⟨rfl, H⟩

/-! curfew/curfewref07.Right -/
set_option maxRecDepth 20000 in
theorem RightR_c (s : Sp) (w : World) : Does Try.prog 42 #[.agg #[.int .i64 s.1, .int .i64 s.2]] w (fun v w' => v = .bool (decide (RightP s)) ∧ SH w noBlocks [] w') := by
  refine does_enter1 Try.func42 rfl Try.ntmps42 rfl ?_
  have H := SH.start w noBlocks
  refine tr_seq (fun K1 hK1 => ?_)
  -- region 0: ref.go:14
  refine tr_region ?_
  refine tr_box H rfl rfl rfl rfl rfl rfl ?_
  intro b1 w1 hb1 H
  refine tr_val (ov_assign rfl rfl) rfl rfl rfl ?_
  refine tr_nil (hK1 _ _ (TrC.keep [2, 1] ?_))
  show TrC _ _ _ _ [(2, _), (1, _)] _ _
  refine tr_seq (fun K2 hK2 => ?_)
  -- region 1: ref.go:14
  refine tr_cut [] [(2, .bool (decide (RightP s)))] (fun w' => SH w noBlocks [] w') (fun K3 hK3 => ?_) (fun w2 H => ?_)
  · skip
    refine tr_val (ov_fieldAddr rfl Try.underlying40 rfl (Try.sizeOf2 _) (by decide) rfl) rfl rfl rfl ?_
    first | refine tr_val (ov_load_blk H.get0 rfl (Try.isAgg2 _) rfl rfl rfl) rfl rfl rfl ?_ | refine tr_val (ov_load_blk H.get1 rfl (Try.isAgg2 _) rfl rfl rfl) rfl rfl rfl ?_ | refine tr_val (ov_load_blk H.get2 rfl (Try.isAgg2 _) rfl rfl rfl) rfl rfl rfl ?_ | refine tr_val (ov_load_blk H.get3 rfl (Try.isAgg2 _) rfl rfl rfl) rfl rfl rfl ?_ | refine tr_val (ov_load_blk H.get4 rfl (Try.isAgg2 _) rfl rfl rfl) rfl rfl rfl ?_ | refine tr_val (ov_load_blk H.get5 rfl (Try.isAgg2 _) rfl rfl rfl) rfl rfl rfl ?_
    refine tr_val (ov_geq rfl rfl rfl) rfl rfl rfl ?_
    refine tr_val (ov_move rfl rfl) rfl rfl rfl ?_
    first | refine tr_split (t := 6) rfl (fun s6 => ?_) (fun s6 => ?_) | refine tr_splitb (t := 6) rfl (fun s6 => ?_) (fun s6 => ?_)
    · skip
      refine tr_val (ov_fieldAddr rfl Try.underlying40 rfl (Try.sizeOf2 _) (by decide) rfl) rfl rfl rfl ?_
      first | refine tr_val (ov_load_blk H.get0 rfl (Try.isAgg2 _) rfl rfl rfl) rfl rfl rfl ?_ | refine tr_val (ov_load_blk H.get1 rfl (Try.isAgg2 _) rfl rfl rfl) rfl rfl rfl ?_ | refine tr_val (ov_load_blk H.get2 rfl (Try.isAgg2 _) rfl rfl rfl) rfl rfl rfl ?_ | refine tr_val (ov_load_blk H.get3 rfl (Try.isAgg2 _) rfl rfl rfl) rfl rfl rfl ?_ | refine tr_val (ov_load_blk H.get4 rfl (Try.isAgg2 _) rfl rfl rfl) rfl rfl rfl ?_ | refine tr_val (ov_load_blk H.get5 rfl (Try.isAgg2 _) rfl rfl rfl) rfl rfl rfl ?_
      refine tr_val (ov_fieldAddr rfl Try.underlying40 rfl (Try.sizeOf2 _) (by decide) rfl) rfl rfl rfl ?_
      first | refine tr_val (ov_load_blk H.get0 rfl (Try.isAgg2 _) rfl rfl rfl) rfl rfl rfl ?_ | refine tr_val (ov_load_blk H.get1 rfl (Try.isAgg2 _) rfl rfl rfl) rfl rfl rfl ?_ | refine tr_val (ov_load_blk H.get2 rfl (Try.isAgg2 _) rfl rfl rfl) rfl rfl rfl ?_ | refine tr_val (ov_load_blk H.get3 rfl (Try.isAgg2 _) rfl rfl rfl) rfl rfl rfl ?_ | refine tr_val (ov_load_blk H.get4 rfl (Try.isAgg2 _) rfl rfl rfl) rfl rfl rfl ?_ | refine tr_val (ov_load_blk H.get5 rfl (Try.isAgg2 _) rfl rfl rfl) rfl rfl rfl ?_
      refine tr_val (ov_lss rfl rfl rfl) rfl rfl rfl ?_
      refine tr_val (ov_pick (vb := undef) rfl rfl rfl rfl) rfl rfl rfl ?_
      refine tr_val (ov_move rfl rfl) rfl rfl rfl ?_
      first | refine tr_split (t := 13) rfl (fun s13 => ?_) (fun s13 => ?_) | refine tr_splitb (t := 13) rfl (fun s13 => ?_) (fun s13 => ?_)
      · skip
        refine tr_val (ov_fieldAddr rfl Try.underlying40 rfl (Try.sizeOf2 _) (by decide) rfl) rfl rfl rfl ?_
        first | refine tr_val (ov_load_blk H.get0 rfl (Try.isAgg2 _) rfl rfl rfl) rfl rfl rfl ?_ | refine tr_val (ov_load_blk H.get1 rfl (Try.isAgg2 _) rfl rfl rfl) rfl rfl rfl ?_ | refine tr_val (ov_load_blk H.get2 rfl (Try.isAgg2 _) rfl rfl rfl) rfl rfl rfl ?_ | refine tr_val (ov_load_blk H.get3 rfl (Try.isAgg2 _) rfl rfl rfl) rfl rfl rfl ?_ | refine tr_val (ov_load_blk H.get4 rfl (Try.isAgg2 _) rfl rfl rfl) rfl rfl rfl ?_ | refine tr_val (ov_load_blk H.get5 rfl (Try.isAgg2 _) rfl rfl rfl) rfl rfl rfl ?_
        refine tr_val (ov_leq rfl rfl rfl) rfl rfl rfl ?_
        refine tr_val (ov_pick (vb := undef) rfl rfl rfl rfl) rfl rfl rfl ?_
        refine tr_val (ov_assign rfl rfl) rfl rfl rfl ?_
        exact tr_nil (hK3 _ _ (Sub.consE rfl (congrArg Value.bool (by first | exact eqT (by unfold RightP; omega) | exact eqF (by unfold RightP; omega) | exact eqI (by unfold RightP; omega))) Sub.nil) (H.drop0))
      · skip
        refine tr_pass rfl rfl rfl ?_
        refine tr_pass rfl rfl rfl ?_
        refine tr_pass rfl rfl rfl ?_
        refine tr_val (ov_pick_f (va := undef) rfl rfl rfl rfl) rfl rfl rfl ?_
        refine tr_val (ov_assign rfl rfl) rfl rfl rfl ?_
        exact tr_nil (hK3 _ _ (Sub.consE rfl (congrArg Value.bool (by first | exact eqT (by unfold RightP; omega) | exact eqF (by unfold RightP; omega) | exact eqI (by unfold RightP; omega))) Sub.nil) (H.drop0))
    · skip
      refine tr_pass rfl rfl rfl ?_
      refine tr_pass rfl rfl rfl ?_
      refine tr_pass rfl rfl rfl ?_
      refine tr_pass rfl rfl rfl ?_
      refine tr_pass rfl rfl rfl ?_
      refine tr_val (ov_pick_f (va := undef) rfl rfl rfl rfl) rfl rfl rfl ?_
      refine tr_val (ov_move rfl rfl) rfl rfl rfl ?_
      refine tr_pass rfl rfl rfl ?_
      refine tr_pass rfl rfl rfl ?_
      refine tr_pass rfl rfl rfl ?_
      refine tr_val (ov_pick_f (va := undef) rfl rfl rfl rfl) rfl rfl rfl ?_
      refine tr_val (ov_assign rfl rfl) rfl rfl rfl ?_
      exact tr_nil (hK3 _ _ (Sub.consE rfl (congrArg Value.bool (by first | exact eqT (by unfold RightP; omega) | exact eqF (by unfold RightP; omega) | exact eqI (by unfold RightP; omega))) Sub.nil) (H.drop0))
  · skip
    refine hK2 _ _ (TrC.keep [2] ?_)
    show TrC _ _ _ _ [(2, _)] _ _
    refine tr_ret (post_ret1 (.inr rfl) rfl rfl ?_)
    exact ⟨rfl, H⟩

/-! curfew/span.instant -/
set_option maxRecDepth 20000 in
theorem instant_c (a : Int) (w : World) : Does Try.prog 66 #[.int .i64 a] w (fun v w' => v = .bool (decide (0 ≤ a ∧ a ≤ 1125899906842624)) ∧ SH w noBlocks [] w') := by
  refine does_enter1 Try.func66 rfl Try.ntmps66 rfl ?_
  have H := SH.start w noBlocks
  refine tr_seq (fun K1 hK1 => ?_)
  -- region 0: span.go:34
  refine tr_region ?_
  refine tr_val (ov_assign rfl rfl) rfl rfl rfl ?_
  refine tr_nil (hK1 _ _ (TrC.keep [2, 0] ?_))
  show TrC _ _ _ _ [(2, _), (0, _)] _ _
  refine tr_seq (fun K2 hK2 => ?_)
  -- region 1: span.go:34
  refine tr_cut [] [(2, .bool (decide (0 ≤ a ∧ a ≤ 1125899906842624)))] (fun w' => SH w noBlocks [] w') (fun K3 hK3 => ?_) (fun w1 H => ?_)
  · skip
    refine tr_val (ov_move rfl rfl) rfl rfl rfl ?_
    refine tr_val (ov_geq rfl rfl rfl) rfl rfl rfl ?_
    refine tr_val (ov_move rfl rfl) rfl rfl rfl ?_
    first | refine tr_split (t := 5) rfl (fun s5 => ?_) (fun s5 => ?_) | refine tr_splitb (t := 5) rfl (fun s5 => ?_) (fun s5 => ?_)
    · skip
      refine tr_val (ov_move rfl rfl) rfl rfl rfl ?_
      refine tr_val (ov_leq rfl rfl rfl) rfl rfl rfl ?_
      refine tr_val (ov_pick (vb := undef) rfl rfl rfl rfl) rfl rfl rfl ?_
      refine tr_val (ov_assign rfl rfl) rfl rfl rfl ?_
      exact tr_nil (hK3 _ _ (Sub.consE rfl (congrArg Value.bool (by first | exact eqT (by skip; omega) | exact eqF (by skip; omega) | exact eqI (by skip; omega))) Sub.nil) (H))
    · skip
      refine tr_pass rfl rfl rfl ?_
      refine tr_pass rfl rfl rfl ?_
      refine tr_val (ov_pick_f (va := undef) rfl rfl rfl rfl) rfl rfl rfl ?_
      refine tr_val (ov_assign rfl rfl) rfl rfl rfl ?_
      exact tr_nil (hK3 _ _ (Sub.consE rfl (congrArg Value.bool (by first | exact eqT (by skip; omega) | exact eqF (by skip; omega) | exact eqI (by skip; omega))) Sub.nil) (H))
  · skip
    refine hK2 _ _ (TrC.keep [2] ?_)
    show TrC _ _ _ _ [(2, _)] _ _
    refine tr_ret (post_ret1 (.inr rfl) rfl rfl ?_)
    exact ⟨rfl, H⟩

def addV (a d : Int) : Int × Int := if ¬ (0 ≤ a ∧ a ≤ 1125899906842624) then (0, 2) else if 1125899906842624 - a < d ∨ d < -a then (0, 10) else (a + d, 0)

/-! curfew/span.Add -/
set_option maxRecDepth 20000 in
theorem Add_c (a d : Int) (w : World) (ha : -9223372036854775808 ≤ a ∧ a ≤ 9223372036854775807)(hd : -9223372036854775808 ≤ d ∧ d ≤ 9223372036854775807) : Does Try.prog 43 #[.int .i64 a, .int .i64 d] w (fun v w' => v = .tuple #[.int .i64 (addV a d).1, .int .i64 (addV a d).2] ∧ SH w noBlocks [] w') := by
  refine does_enter2 Try.func43 rfl Try.ntmps43 rfl ?_
  have H := SH.start w noBlocks
  refine tr_seq (fun K1 hK1 => ?_)
  -- region 0: span.go:37
  refine tr_region ?_
  refine tr_val (ov_assign rfl rfl) rfl rfl rfl ?_
  refine tr_val (ov_assign rfl rfl) rfl rfl rfl ?_
  refine tr_nil (hK1 _ _ (TrC.keep [5, 4, 0, 1] ?_))
  show TrC _ _ _ _ [(5, _), (4, _), (0, _), (1, _)] _ _
  refine tr_seq (fun K2 hK2 => ?_)
  refine tr_block ?_
  refine tr_seq (fun K3 hK3 => ?_)
  -- region 1: span.go:39
  refine tr_region ?_
  refine tr_val (ov_move rfl rfl) rfl rfl rfl ?_
  refine tr_call (instant_c a _) rfl rfl rfl Try.call66 rfl rfl rfl ?_
  rintro _ w1 ⟨rfl, HC⟩
  have H := H.call0n HC
  first | refine tr_val (ov_not rfl rfl) rfl rfl rfl ?_ | refine tr_val (ov_notb rfl rfl) rfl rfl rfl ?_
  refine tr_val (ov_assign rfl rfl) rfl rfl rfl ?_
  refine tr_nil (hK3 _ _ (TrC.keep [6, 5, 4, 0, 1] ?_))
  show TrC _ _ _ _ [(6, _), (5, _), (4, _), (0, _), (1, _)] _ _
  first | refine tr_cond rfl (fun c6 => ?_) (fun c6 => ?_) | refine tr_condb rfl (fun c6 => ?_) (fun c6 => ?_)
  · skip
    refine tr_seq (fun K4 hK4 => ?_)
    -- region 2: span.go:40
    refine tr_region ?_
    refine tr_val (ov_assign rfl rfl) rfl rfl rfl ?_
    refine tr_val (ov_assign rfl rfl) rfl rfl rfl ?_
    refine tr_nil (hK4 _ _ (TrC.keep [5, 4, 6, 0, 1] ?_))
    show TrC _ _ _ _ [(5, _), (4, _), (6, _), (0, _), (1, _)] _ _
    refine tr_ret (post_ret2 (.inr rfl) rfl rfl rfl ?_)
    unfold addV; rw [if_pos (by omega)]; exact ⟨rfl, H⟩
  · skip
    refine tr_seq (fun K5 hK5 => ?_)
    -- region 3: span.go:41
    refine tr_region ?_
    refine tr_val (ov_move rfl rfl) rfl rfl rfl ?_
    refine tr_val (ov_move rfl rfl) rfl rfl rfl ?_
    refine tr_val (ov_sub rfl rfl rfl (w64 (by omega))) rfl rfl rfl ?_
    refine tr_val (ov_gtr rfl rfl rfl) rfl rfl rfl ?_
    refine tr_val (ov_move rfl rfl) rfl rfl rfl ?_
    first | refine tr_split (t := 15) rfl (fun s15 => ?_) (fun s15 => ?_) | refine tr_splitb (t := 15) rfl (fun s15 => ?_) (fun s15 => ?_)
    · skip
      refine tr_pass rfl rfl rfl ?_
      refine tr_pass rfl rfl rfl ?_
      refine tr_pass rfl rfl rfl ?_
      refine tr_pass rfl rfl rfl ?_
      refine tr_val (ov_pick (vb := undef) rfl rfl rfl rfl) rfl rfl rfl ?_
      refine tr_val (ov_assign rfl rfl) rfl rfl rfl ?_
      refine tr_nil (hK5 _ _ (TrC.keep [10, 6, 5, 4, 0, 1] ?_))
      show TrC _ _ _ _ [(10, _), (6, _), (5, _), (4, _), (0, _), (1, _)] _ _
      refine tr_cond_t rfl rfl ?_
      refine tr_seq (fun K6 hK6 => ?_)
      -- region 4: span.go:42
      refine tr_region ?_
      refine tr_val (ov_assign rfl rfl) rfl rfl rfl ?_
      refine tr_val (ov_assign rfl rfl) rfl rfl rfl ?_
      refine tr_nil (hK6 _ _ (TrC.keep [5, 4, 10, 6, 0, 1] ?_))
      show TrC _ _ _ _ [(5, _), (4, _), (10, _), (6, _), (0, _), (1, _)] _ _
      refine tr_ret (post_ret2 (.inr rfl) rfl rfl rfl ?_)
      unfold addV; rw [if_neg (by omega), if_pos (by omega)]; exact ⟨rfl, H⟩
    · skip
      refine tr_val (ov_move rfl rfl) rfl rfl rfl ?_
      refine tr_val (ov_move rfl rfl) rfl rfl rfl ?_
      refine tr_val (ov_neg rfl rfl (w64 (by omega))) rfl rfl rfl ?_
      refine tr_val (ov_lss rfl rfl rfl) rfl rfl rfl ?_
      refine tr_val (ov_pick_f (va := undef) rfl rfl rfl rfl) rfl rfl rfl ?_
      refine tr_val (ov_assign rfl rfl) rfl rfl rfl ?_
      refine tr_nil (hK5 _ _ (TrC.keep [10, 6, 5, 4, 0, 1] ?_))
      show TrC _ _ _ _ [(10, _), (6, _), (5, _), (4, _), (0, _), (1, _)] _ _
      first | refine tr_cond rfl (fun c10 => ?_) (fun c10 => ?_) | refine tr_condb rfl (fun c10 => ?_) (fun c10 => ?_)
      · skip
        refine tr_seq (fun K7 hK7 => ?_)
        -- region 4: span.go:42
        refine tr_region ?_
        refine tr_val (ov_assign rfl rfl) rfl rfl rfl ?_
        refine tr_val (ov_assign rfl rfl) rfl rfl rfl ?_
        refine tr_nil (hK7 _ _ (TrC.keep [5, 4, 10, 6, 0, 1] ?_))
        show TrC _ _ _ _ [(5, _), (4, _), (10, _), (6, _), (0, _), (1, _)] _ _
        refine tr_ret (post_ret2 (.inr rfl) rfl rfl rfl ?_)
        unfold addV; rw [if_neg (by omega), if_pos (by omega)]; exact ⟨rfl, H⟩
      · skip
        refine tr_skip (hK2 _ _ (TrC.keep [10, 6, 5, 4, 0, 1] ?_))
        show TrC _ _ _ _ [(10, _), (6, _), (5, _), (4, _), (0, _), (1, _)] _ _
        refine tr_seq (fun K8 hK8 => ?_)
        -- region 5: span.go:44
        refine tr_region ?_
        refine tr_val (ov_move rfl rfl) rfl rfl rfl ?_
        refine tr_val (ov_move rfl rfl) rfl rfl rfl ?_
        refine tr_val (ov_add rfl rfl rfl (w64 (by omega))) rfl rfl rfl ?_
        refine tr_val (ov_assign rfl rfl) rfl rfl rfl ?_
        refine tr_val (ov_assign rfl rfl) rfl rfl rfl ?_
        refine tr_nil (hK8 _ _ (TrC.keep [5, 4, 10, 6, 0, 1] ?_))
        show TrC _ _ _ _ [(5, _), (4, _), (10, _), (6, _), (0, _), (1, _)] _ _
        refine tr_ret (post_ret2 (.inr rfl) rfl rfl rfl ?_)
        unfold addV; rw [if_neg (by omega), if_neg (by omega)]; exact ⟨rfl, H⟩

/-! curfew/curfewref07.Add -/
set_option maxRecDepth 20000 in
theorem AddR_c (a d : Int) (w : World) (ha : -9223372036854775808 ≤ a ∧ a ≤ 9223372036854775807)(hd : -9223372036854775808 ≤ d ∧ d ≤ 9223372036854775807) : Does Try.prog 44 #[.int .i64 a, .int .i64 d] w (fun v w' => v = .tuple #[.int .i64 (addV a d).1, .int .i64 (addV a d).2] ∧ SH w noBlocks [] w') := by
  refine does_enter2 Try.func44 rfl Try.ntmps44 rfl ?_
  have H := SH.start w noBlocks
  refine tr_seq (fun K1 hK1 => ?_)
  -- region 0: ref.go:43
  refine tr_region ?_
  refine tr_val (ov_assign rfl rfl) rfl rfl rfl ?_
  refine tr_val (ov_assign rfl rfl) rfl rfl rfl ?_
  refine tr_nil (hK1 _ _ (TrC.keep [5, 4, 0, 1] ?_))
  show TrC _ _ _ _ [(5, _), (4, _), (0, _), (1, _)] _ _
  refine tr_seq (fun K2 hK2 => ?_)
  refine tr_seq (fun K3 hK3 => ?_)
  -- region 1: ref.go:44
  refine tr_region ?_
  refine tr_val (ov_move rfl rfl) rfl rfl rfl ?_
  refine tr_val (ov_lss rfl rfl rfl) rfl rfl rfl ?_
  refine tr_val (ov_move rfl rfl) rfl rfl rfl ?_
  first | refine tr_split (t := 8) rfl (fun s8 => ?_) (fun s8 => ?_) | refine tr_splitb (t := 8) rfl (fun s8 => ?_) (fun s8 => ?_)
  · skip
    refine tr_pass rfl rfl rfl ?_
    refine tr_pass rfl rfl rfl ?_
    refine tr_val (ov_pick (vb := undef) rfl rfl rfl rfl) rfl rfl rfl ?_
    refine tr_nil (hK3 _ _ (TrC.keep [11, 5, 4, 0, 1] ?_))
    show TrC _ _ _ _ [(11, _), (5, _), (4, _), (0, _), (1, _)] _ _
    refine tr_cond_t rfl rfl ?_
    refine tr_seq (fun K4 hK4 => ?_)
    -- region 2: ref.go:45
    refine tr_region ?_
    refine tr_val (ov_assign rfl rfl) rfl rfl rfl ?_
    refine tr_val (ov_assign rfl rfl) rfl rfl rfl ?_
    refine tr_nil (hK4 _ _ (TrC.keep [5, 4, 11, 0, 1] ?_))
    show TrC _ _ _ _ [(5, _), (4, _), (11, _), (0, _), (1, _)] _ _
    refine tr_ret (post_ret2 (.inr rfl) rfl rfl rfl ?_)
    unfold addV; rw [if_pos (by omega)]; exact ⟨rfl, H⟩
  · skip
    refine tr_val (ov_move rfl rfl) rfl rfl rfl ?_
    refine tr_val (ov_gtr rfl rfl rfl) rfl rfl rfl ?_
    refine tr_val (ov_pick_f (va := undef) rfl rfl rfl rfl) rfl rfl rfl ?_
    refine tr_nil (hK3 _ _ (TrC.keep [11, 5, 4, 0, 1] ?_))
    show TrC _ _ _ _ [(11, _), (5, _), (4, _), (0, _), (1, _)] _ _
    first | refine tr_cond rfl (fun c11 => ?_) (fun c11 => ?_) | refine tr_condb rfl (fun c11 => ?_) (fun c11 => ?_)
    · skip
      refine tr_seq (fun K5 hK5 => ?_)
      -- region 2: ref.go:45
      refine tr_region ?_
      refine tr_val (ov_assign rfl rfl) rfl rfl rfl ?_
      refine tr_val (ov_assign rfl rfl) rfl rfl rfl ?_
      refine tr_nil (hK5 _ _ (TrC.keep [5, 4, 11, 0, 1] ?_))
      show TrC _ _ _ _ [(5, _), (4, _), (11, _), (0, _), (1, _)] _ _
      refine tr_ret (post_ret2 (.inr rfl) rfl rfl rfl ?_)
      unfold addV; rw [if_pos (by omega)]; exact ⟨rfl, H⟩
    · skip
      refine tr_skip (hK2 _ _ (TrC.keep [11, 5, 4, 0, 1] ?_))
      show TrC _ _ _ _ [(11, _), (5, _), (4, _), (0, _), (1, _)] _ _
      refine tr_seq (fun K6 hK6 => ?_)
      refine tr_seq (fun K7 hK7 => ?_)
      -- region 3: ref.go:47
      refine tr_region ?_
      refine tr_val (ov_move rfl rfl) rfl rfl rfl ?_
      refine tr_val (ov_move rfl rfl) rfl rfl rfl ?_
      refine tr_val (ov_sub rfl rfl rfl (w64 (by omega))) rfl rfl rfl ?_
      refine tr_val (ov_gtr rfl rfl rfl) rfl rfl rfl ?_
      refine tr_val (ov_move rfl rfl) rfl rfl rfl ?_
      first | refine tr_split (t := 16) rfl (fun s16 => ?_) (fun s16 => ?_) | refine tr_splitb (t := 16) rfl (fun s16 => ?_) (fun s16 => ?_)
      · skip
        refine tr_pass rfl rfl rfl ?_
        refine tr_pass rfl rfl rfl ?_
        refine tr_pass rfl rfl rfl ?_
        refine tr_pass rfl rfl rfl ?_
        refine tr_val (ov_pick (vb := undef) rfl rfl rfl rfl) rfl rfl rfl ?_
        refine tr_nil (hK7 _ _ (TrC.keep [21, 11, 5, 4, 0, 1] ?_))
        show TrC _ _ _ _ [(21, _), (11, _), (5, _), (4, _), (0, _), (1, _)] _ _
        refine tr_cond_t rfl rfl ?_
        refine tr_seq (fun K8 hK8 => ?_)
        -- region 4: ref.go:48
        refine tr_region ?_
        refine tr_val (ov_assign rfl rfl) rfl rfl rfl ?_
        refine tr_val (ov_assign rfl rfl) rfl rfl rfl ?_
        refine tr_nil (hK8 _ _ (TrC.keep [5, 4, 21, 11, 0, 1] ?_))
        show TrC _ _ _ _ [(5, _), (4, _), (21, _), (11, _), (0, _), (1, _)] _ _
        refine tr_ret (post_ret2 (.inr rfl) rfl rfl rfl ?_)
        unfold addV; rw [if_neg (by omega), if_pos (by omega)]; exact ⟨rfl, H⟩
      · skip
        refine tr_val (ov_move rfl rfl) rfl rfl rfl ?_
        refine tr_val (ov_move rfl rfl) rfl rfl rfl ?_
        refine tr_val (ov_neg rfl rfl (w64 (by omega))) rfl rfl rfl ?_
        refine tr_val (ov_lss rfl rfl rfl) rfl rfl rfl ?_
        refine tr_val (ov_pick_f (va := undef) rfl rfl rfl rfl) rfl rfl rfl ?_
        refine tr_nil (hK7 _ _ (TrC.keep [21, 11, 5, 4, 0, 1] ?_))
        show TrC _ _ _ _ [(21, _), (11, _), (5, _), (4, _), (0, _), (1, _)] _ _
        first | refine tr_cond rfl (fun c21 => ?_) (fun c21 => ?_) | refine tr_condb rfl (fun c21 => ?_) (fun c21 => ?_)
        · skip
          refine tr_seq (fun K9 hK9 => ?_)
          -- region 4: ref.go:48
          refine tr_region ?_
          refine tr_val (ov_assign rfl rfl) rfl rfl rfl ?_
          refine tr_val (ov_assign rfl rfl) rfl rfl rfl ?_
          refine tr_nil (hK9 _ _ (TrC.keep [5, 4, 21, 11, 0, 1] ?_))
          show TrC _ _ _ _ [(5, _), (4, _), (21, _), (11, _), (0, _), (1, _)] _ _
          refine tr_ret (post_ret2 (.inr rfl) rfl rfl rfl ?_)
          unfold addV; rw [if_neg (by omega), if_pos (by omega)]; exact ⟨rfl, H⟩
        · skip
          refine tr_skip (hK6 _ _ (TrC.keep [21, 11, 5, 4, 0, 1] ?_))
          show TrC _ _ _ _ [(21, _), (11, _), (5, _), (4, _), (0, _), (1, _)] _ _
          refine tr_seq (fun K10 hK10 => ?_)
          -- region 5: ref.go:50
          refine tr_region ?_
          refine tr_val (ov_move rfl rfl) rfl rfl rfl ?_
          refine tr_val (ov_move rfl rfl) rfl rfl rfl ?_
          refine tr_val (ov_add rfl rfl rfl (w64 (by omega))) rfl rfl rfl ?_
          refine tr_val (ov_assign rfl rfl) rfl rfl rfl ?_
          refine tr_val (ov_assign rfl rfl) rfl rfl rfl ?_
          refine tr_nil (hK10 _ _ (TrC.keep [5, 4, 21, 11, 0, 1] ?_))
          show TrC _ _ _ _ [(5, _), (4, _), (21, _), (11, _), (0, _), (1, _)] _ _
          refine tr_ret (post_ret2 (.inr rfl) rfl rfl rfl ?_)
          unfold addV; rw [if_neg (by omega), if_neg (by omega)]; exact ⟨rfl, H⟩

/-! curfew/span.common -/
set_option maxRecDepth 20000 in
theorem common_c (s : Sp) (a b : Int) (w : World) : Does Try.prog 69 #[.agg #[.int .i64 s.1, .int .i64 s.2], .int .i64 a, .int .i64 b] w (fun v w' => v = .agg #[.int .i64 (common s a b).1, .int .i64 (common s a b).2] ∧ SH w noBlocks [] w') := by
  refine does_enter3 Try.func69 rfl Try.ntmps69 rfl ?_
  have H := SH.start w noBlocks
  refine tr_seq (fun K1 hK1 => ?_)
  -- region 0: span.go:48
  refine tr_region ?_
  refine tr_box H rfl rfl rfl rfl rfl rfl ?_
  intro b1 w1 hb1 H
  refine tr_alloc H rfl (Try.zeroValue40 _) rfl rfl rfl rfl ?_
  intro b2 w2 hb2 H
  refine tr_nil (hK1 _ _ (TrC.keep [6, 3, 1, 2] ?_))
  show TrC _ _ _ _ [(6, _), (3, _), (1, _), (2, _)] _ _
  refine tr_seq (fun K2 hK2 => ?_)
  -- region 1: span.go:49
  refine tr_region ?_
  refine tr_val (ov_fieldAddr rfl Try.underlying40 rfl (Try.sizeOf2 _) (by decide) rfl) rfl rfl rfl ?_
  first | refine tr_val (ov_load_blk H.get0 rfl (Try.isAgg2 _) rfl rfl rfl) rfl rfl rfl ?_ | refine tr_val (ov_load_blk H.get1 rfl (Try.isAgg2 _) rfl rfl rfl) rfl rfl rfl ?_ | refine tr_val (ov_load_blk H.get2 rfl (Try.isAgg2 _) rfl rfl rfl) rfl rfl rfl ?_ | refine tr_val (ov_load_blk H.get3 rfl (Try.isAgg2 _) rfl rfl rfl) rfl rfl rfl ?_ | refine tr_val (ov_load_blk H.get4 rfl (Try.isAgg2 _) rfl rfl rfl) rfl rfl rfl ?_ | refine tr_val (ov_load_blk H.get5 rfl (Try.isAgg2 _) rfl rfl rfl) rfl rfl rfl ?_
  refine tr_val (ov_move rfl rfl) rfl rfl rfl ?_
  refine tr_val (ov_max rfl rfl rfl) rfl rfl rfl ?_
  refine tr_val (ov_fieldAddr rfl Try.underlying40 rfl (Try.sizeOf2 _) (by decide) rfl) rfl rfl rfl ?_
  first | refine tr_val (ov_load_blk H.get0 rfl (Try.isAgg2 _) rfl rfl rfl) rfl rfl rfl ?_ | refine tr_val (ov_load_blk H.get1 rfl (Try.isAgg2 _) rfl rfl rfl) rfl rfl rfl ?_ | refine tr_val (ov_load_blk H.get2 rfl (Try.isAgg2 _) rfl rfl rfl) rfl rfl rfl ?_ | refine tr_val (ov_load_blk H.get3 rfl (Try.isAgg2 _) rfl rfl rfl) rfl rfl rfl ?_ | refine tr_val (ov_load_blk H.get4 rfl (Try.isAgg2 _) rfl rfl rfl) rfl rfl rfl ?_ | refine tr_val (ov_load_blk H.get5 rfl (Try.isAgg2 _) rfl rfl rfl) rfl rfl rfl ?_
  refine tr_val (ov_move rfl rfl) rfl rfl rfl ?_
  refine tr_val (ov_min rfl rfl rfl) rfl rfl rfl ?_
  refine tr_val (ov_build rfl (fun ρ k => bs2 k rfl rfl) (bld40_0_1 _ _ _)) rfl rfl rfl ?_
  first | (refine tr_storeW H.get0 rfl (Try.sizeOf40 _) rfl rfl rfl rfl rfl rfl rfl rfl ?_; intro w3 U; have H := H.upd0 U; clear U) | (refine tr_storeW H.get1 rfl (Try.sizeOf40 _) rfl rfl rfl rfl rfl rfl rfl rfl ?_; intro w3 U; have H := H.upd1 U; clear U) | (refine tr_storeW H.get2 rfl (Try.sizeOf40 _) rfl rfl rfl rfl rfl rfl rfl rfl ?_; intro w3 U; have H := H.upd2 U; clear U) | (refine tr_storeW H.get3 rfl (Try.sizeOf40 _) rfl rfl rfl rfl rfl rfl rfl rfl ?_; intro w3 U; have H := H.upd3 U; clear U) | (refine tr_storeW H.get4 rfl (Try.sizeOf40 _) rfl rfl rfl rfl rfl rfl rfl rfl ?_; intro w3 U; have H := H.upd4 U; clear U) | (refine tr_storeW H.get5 rfl (Try.sizeOf40 _) rfl rfl rfl rfl rfl rfl rfl rfl ?_; intro w3 U; have H := H.upd5 U; clear U)
  refine tr_nil (hK2 _ _ (TrC.keep [6] ?_))
  show TrC _ _ _ _ [(6, _)] _ _
  refine tr_ret (post_ret1 (.inr rfl) rfl (by first | exact ⟨_, rfl, res_blkN H.get0 (Try.isAgg40 _) (Try.sizeOf40 _) rfl rfl⟩ | exact ⟨_, rfl, res_blkN H.get1 (Try.isAgg40 _) (Try.sizeOf40 _) rfl rfl⟩ | exact ⟨_, rfl, res_blkN H.get2 (Try.isAgg40 _) (Try.sizeOf40 _) rfl rfl⟩ | exact ⟨_, rfl, res_blkN H.get3 (Try.isAgg40 _) (Try.sizeOf40 _) rfl rfl⟩ | exact ⟨_, rfl, res_blkN H.get4 (Try.isAgg40 _) (Try.sizeOf40 _) rfl rfl⟩ | exact ⟨_, rfl, res_blkN H.get5 (Try.isAgg40 _) (Try.sizeOf40 _) rfl rfl⟩) ?_)
  exact ⟨rfl, H.drop0.drop0⟩

/-! curfew/curfewref07.part -/
set_option maxRecDepth 20000 in
theorem part_c (s : Sp) (a b : Int) (w : World) : Does Try.prog 70 #[.agg #[.int .i64 s.1, .int .i64 s.2], .int .i64 a, .int .i64 b] w (fun v w' => v = .tuple #[.agg #[.int .i64 (common s a b).1, .int .i64 (common s a b).2], .bool (decide (max s.1 a < min s.2 b))] ∧ SH w noBlocks [] w') := by
  refine does_enter3 Try.func70 rfl Try.ntmps70 rfl ?_
  have H := SH.start w noBlocks
  refine tr_seq (fun K1 hK1 => ?_)
  -- region 0: ref.go:54
  refine tr_region ?_
  refine tr_box H rfl rfl rfl rfl rfl rfl ?_
  intro b1 w1 hb1 H
  refine tr_alloc H rfl (Try.zeroValue40 _) rfl rfl rfl rfl ?_
  intro b2 w2 hb2 H
  refine tr_val (ov_assign rfl rfl) rfl rfl rfl ?_
  refine tr_nil (hK1 _ _ (TrC.keep [7, 6, 3, 1, 2] ?_))
  show TrC _ _ _ _ [(7, _), (6, _), (3, _), (1, _), (2, _)] _ _
  refine tr_seq (fun K2 hK2 => ?_)
  refine tr_seq (fun K3 hK3 => ?_)
  -- region 1: ref.go:55
  refine tr_region ?_
  refine tr_val (ov_fieldAddr rfl Try.underlying40 rfl (Try.sizeOf2 _) (by decide) rfl) rfl rfl rfl ?_
  first | refine tr_val (ov_load_blk H.get0 rfl (Try.isAgg2 _) rfl rfl rfl) rfl rfl rfl ?_ | refine tr_val (ov_load_blk H.get1 rfl (Try.isAgg2 _) rfl rfl rfl) rfl rfl rfl ?_ | refine tr_val (ov_load_blk H.get2 rfl (Try.isAgg2 _) rfl rfl rfl) rfl rfl rfl ?_ | refine tr_val (ov_load_blk H.get3 rfl (Try.isAgg2 _) rfl rfl rfl) rfl rfl rfl ?_ | refine tr_val (ov_load_blk H.get4 rfl (Try.isAgg2 _) rfl rfl rfl) rfl rfl rfl ?_ | refine tr_val (ov_load_blk H.get5 rfl (Try.isAgg2 _) rfl rfl rfl) rfl rfl rfl ?_
  refine tr_val (ov_move rfl rfl) rfl rfl rfl ?_
  refine tr_val (ov_lss rfl rfl rfl) rfl rfl rfl ?_
  refine tr_nil (hK3 _ _ (TrC.keep [11, 7, 6, 3, 1, 2] ?_))
  show TrC _ _ _ _ [(11, _), (7, _), (6, _), (3, _), (1, _), (2, _)] _ _
  first | refine tr_cond rfl (fun c11 => ?_) (fun c11 => ?_) | refine tr_condb rfl (fun c11 => ?_) (fun c11 => ?_)
  · skip
    -- region 2: ref.go:56
    refine tr_region ?_
    refine tr_val (ov_move rfl rfl) rfl rfl rfl ?_
    refine tr_val (ov_fieldAddr rfl Try.underlying40 rfl (Try.sizeOf2 _) (by decide) rfl) rfl rfl rfl ?_
    first | (refine tr_store H.get0 rfl (Try.sizeOf2 _) rfl rfl rfl rfl rfl rfl rfl ?_; intro w3 U; have H := H.upd0 U; clear U) | (refine tr_store H.get1 rfl (Try.sizeOf2 _) rfl rfl rfl rfl rfl rfl rfl ?_; intro w3 U; have H := H.upd1 U; clear U) | (refine tr_store H.get2 rfl (Try.sizeOf2 _) rfl rfl rfl rfl rfl rfl rfl ?_; intro w3 U; have H := H.upd2 U; clear U) | (refine tr_store H.get3 rfl (Try.sizeOf2 _) rfl rfl rfl rfl rfl rfl rfl ?_; intro w3 U; have H := H.upd3 U; clear U) | (refine tr_store H.get4 rfl (Try.sizeOf2 _) rfl rfl rfl rfl rfl rfl rfl ?_; intro w3 U; have H := H.upd4 U; clear U) | (refine tr_store H.get5 rfl (Try.sizeOf2 _) rfl rfl rfl rfl rfl rfl rfl ?_; intro w3 U; have H := H.upd5 U; clear U)
    try simp only [List.set_cons_zero, List.set_cons_succ, Nat.zero_add] at H
    refine tr_nil (hK2 _ _ (TrC.keep [11, 7, 6, 3, 1, 2] ?_))
    show TrC _ _ _ _ [(11, _), (7, _), (6, _), (3, _), (1, _), (2, _)] _ _
    refine tr_seq (fun K4 hK4 => ?_)
    refine tr_seq (fun K5 hK5 => ?_)
    -- region 3: ref.go:58
    refine tr_region ?_
    refine tr_val (ov_fieldAddr rfl Try.underlying40 rfl (Try.sizeOf2 _) (by decide) rfl) rfl rfl rfl ?_
    first | refine tr_val (ov_load_blk H.get0 rfl (Try.isAgg2 _) rfl rfl rfl) rfl rfl rfl ?_ | refine tr_val (ov_load_blk H.get1 rfl (Try.isAgg2 _) rfl rfl rfl) rfl rfl rfl ?_ | refine tr_val (ov_load_blk H.get2 rfl (Try.isAgg2 _) rfl rfl rfl) rfl rfl rfl ?_ | refine tr_val (ov_load_blk H.get3 rfl (Try.isAgg2 _) rfl rfl rfl) rfl rfl rfl ?_ | refine tr_val (ov_load_blk H.get4 rfl (Try.isAgg2 _) rfl rfl rfl) rfl rfl rfl ?_ | refine tr_val (ov_load_blk H.get5 rfl (Try.isAgg2 _) rfl rfl rfl) rfl rfl rfl ?_
    refine tr_val (ov_move rfl rfl) rfl rfl rfl ?_
    refine tr_val (ov_gtr rfl rfl rfl) rfl rfl rfl ?_
    refine tr_nil (hK5 _ _ (TrC.keep [17, 11, 7, 6, 3, 1, 2] ?_))
    show TrC _ _ _ _ [(17, _), (11, _), (7, _), (6, _), (3, _), (1, _), (2, _)] _ _
    first | refine tr_cond rfl (fun c17 => ?_) (fun c17 => ?_) | refine tr_condb rfl (fun c17 => ?_) (fun c17 => ?_)
    · skip
      -- region 4: ref.go:59
      refine tr_region ?_
      refine tr_val (ov_move rfl rfl) rfl rfl rfl ?_
      refine tr_val (ov_fieldAddr rfl Try.underlying40 rfl (Try.sizeOf2 _) (by decide) rfl) rfl rfl rfl ?_
      first | (refine tr_store H.get0 rfl (Try.sizeOf2 _) rfl rfl rfl rfl rfl rfl rfl ?_; intro w4 U; have H := H.upd0 U; clear U) | (refine tr_store H.get1 rfl (Try.sizeOf2 _) rfl rfl rfl rfl rfl rfl rfl ?_; intro w4 U; have H := H.upd1 U; clear U) | (refine tr_store H.get2 rfl (Try.sizeOf2 _) rfl rfl rfl rfl rfl rfl rfl ?_; intro w4 U; have H := H.upd2 U; clear U) | (refine tr_store H.get3 rfl (Try.sizeOf2 _) rfl rfl rfl rfl rfl rfl rfl ?_; intro w4 U; have H := H.upd3 U; clear U) | (refine tr_store H.get4 rfl (Try.sizeOf2 _) rfl rfl rfl rfl rfl rfl rfl ?_; intro w4 U; have H := H.upd4 U; clear U) | (refine tr_store H.get5 rfl (Try.sizeOf2 _) rfl rfl rfl rfl rfl rfl rfl ?_; intro w4 U; have H := H.upd5 U; clear U)
      try simp only [List.set_cons_zero, List.set_cons_succ, Nat.zero_add] at H
      refine tr_nil (hK4 _ _ (TrC.keep [17, 11, 7, 6, 3, 1, 2] ?_))
      show TrC _ _ _ _ [(17, _), (11, _), (7, _), (6, _), (3, _), (1, _), (2, _)] _ _
      refine tr_seq (fun K6 hK6 => ?_)
      -- region 5: ref.go:61
      have H := H.as_ (rs' := [blk b2 40 [.int .i64 0, .int .i64 0], blk b1 40 [.int .i64 (max s.1 a), .int .i64 (min s.2 b)]]) (by first | (rw [show max s.1 a = a by omega, show min s.2 b = b by omega]; done) | (rw [show max s.1 a = a by omega, show min s.2 b = b by omega]; rfl) | (rw [show max s.1 a = a by omega, show min s.2 b = s.2 by omega]; done) | (rw [show max s.1 a = a by omega, show min s.2 b = s.2 by omega]; rfl) | (rw [show max s.1 a = s.1 by omega, show min s.2 b = b by omega]; done) | (rw [show max s.1 a = s.1 by omega, show min s.2 b = b by omega]; rfl) | (rw [show max s.1 a = s.1 by omega, show min s.2 b = s.2 by omega]; done) | (rw [show max s.1 a = s.1 by omega, show min s.2 b = s.2 by omega]; rfl))
      refine tr_held (fun w' => (blk b1 40 [.int .i64 (max s.1 a), .int .i64 (min s.2 b)]).holds w') mixed rfl H ?_
      intro w5 H
      first | refine th_take 0 rfl (by kernel_rfl) (by kernel_rfl) (by kernel_rfl) (H.get1) (fun _ hS => ov_load_blkN hS rfl (Try.isAgg40 _) (Try.sizeOf40 _) rfl rfl rfl) rfl rfl rfl ?_ | refine th_take 0 rfl (by kernel_rfl) (by kernel_rfl) (by kernel_rfl) (H.get1) (fun _ hS => ov_load_blkN hS.1 rfl (Try.isAgg40 _) (Try.sizeOf40 _) rfl rfl rfl) rfl rfl rfl ?_ | refine th_take 0 rfl (by kernel_rfl) (by kernel_rfl) (by kernel_rfl) (H.get1) (fun _ hS => ov_load_blkN hS.2.1 rfl (Try.isAgg40 _) (Try.sizeOf40 _) rfl rfl rfl) rfl rfl rfl ?_ | refine th_take 0 rfl (by kernel_rfl) (by kernel_rfl) (by kernel_rfl) (H.get1) (fun _ hS => ov_load_blkN hS.2.2.1 rfl (Try.isAgg40 _) (Try.sizeOf40 _) rfl rfl rfl) rfl rfl rfl ?_ | refine th_take 0 rfl (by kernel_rfl) (by kernel_rfl) (by kernel_rfl) (H.get1) (fun _ hS => ov_load_blkN hS.2.2.2.1 rfl (Try.isAgg40 _) (Try.sizeOf40 _) rfl rfl rfl) rfl rfl rfl ?_ | refine th_take 0 rfl (by kernel_rfl) (by kernel_rfl) (by kernel_rfl) (H.get1) (fun _ hS => ov_load_blkN hS.2.2.2.2.1 rfl (Try.isAgg40 _) (Try.sizeOf40 _) rfl rfl rfl) rfl rfl rfl ?_ | refine th_take 0 rfl (by kernel_rfl) (by kernel_rfl) (by kernel_rfl) (H.get1) (fun _ hS => ov_load_blkN hS.2 rfl (Try.isAgg40 _) (Try.sizeOf40 _) rfl rfl rfl) rfl rfl rfl ?_ | refine th_take 0 rfl (by kernel_rfl) (by kernel_rfl) (by kernel_rfl) (H.get1) (fun _ hS => ov_load_blkN hS.2.2 rfl (Try.isAgg40 _) (Try.sizeOf40 _) rfl rfl rfl) rfl rfl rfl ?_ | refine th_take 0 rfl (by kernel_rfl) (by kernel_rfl) (by kernel_rfl) (H.get1) (fun _ hS => ov_load_blkN hS.2.2.2 rfl (Try.isAgg40 _) (Try.sizeOf40 _) rfl rfl rfl) rfl rfl rfl ?_ | refine th_take 0 rfl (by kernel_rfl) (by kernel_rfl) (by kernel_rfl) (H.get1) (fun _ hS => ov_load_blkN hS.2.2.2.2 rfl (Try.isAgg40 _) (Try.sizeOf40 _) rfl rfl rfl) rfl rfl rfl ?_
      refine th_take 1 rfl (by kernel_rfl) (by kernel_rfl) (by kernel_rfl) (H.get1) (fun _ hS => ov_fieldAddr rfl Try.underlying40 rfl (Try.sizeOf2 _) (by decide) rfl) rfl rfl rfl ?_
      first | refine th_take 2 rfl (by kernel_rfl) (by kernel_rfl) (by kernel_rfl) (H.get1) (fun _ hS => ov_load_blk hS rfl (Try.isAgg2 _) rfl rfl rfl) rfl rfl rfl ?_ | refine th_take 2 rfl (by kernel_rfl) (by kernel_rfl) (by kernel_rfl) (H.get1) (fun _ hS => ov_load_blk hS.1 rfl (Try.isAgg2 _) rfl rfl rfl) rfl rfl rfl ?_ | refine th_take 2 rfl (by kernel_rfl) (by kernel_rfl) (by kernel_rfl) (H.get1) (fun _ hS => ov_load_blk hS.2.1 rfl (Try.isAgg2 _) rfl rfl rfl) rfl rfl rfl ?_ | refine th_take 2 rfl (by kernel_rfl) (by kernel_rfl) (by kernel_rfl) (H.get1) (fun _ hS => ov_load_blk hS.2.2.1 rfl (Try.isAgg2 _) rfl rfl rfl) rfl rfl rfl ?_ | refine th_take 2 rfl (by kernel_rfl) (by kernel_rfl) (by kernel_rfl) (H.get1) (fun _ hS => ov_load_blk hS.2.2.2.1 rfl (Try.isAgg2 _) rfl rfl rfl) rfl rfl rfl ?_ | refine th_take 2 rfl (by kernel_rfl) (by kernel_rfl) (by kernel_rfl) (H.get1) (fun _ hS => ov_load_blk hS.2.2.2.2.1 rfl (Try.isAgg2 _) rfl rfl rfl) rfl rfl rfl ?_ | refine th_take 2 rfl (by kernel_rfl) (by kernel_rfl) (by kernel_rfl) (H.get1) (fun _ hS => ov_load_blk hS.2 rfl (Try.isAgg2 _) rfl rfl rfl) rfl rfl rfl ?_ | refine th_take 2 rfl (by kernel_rfl) (by kernel_rfl) (by kernel_rfl) (H.get1) (fun _ hS => ov_load_blk hS.2.2 rfl (Try.isAgg2 _) rfl rfl rfl) rfl rfl rfl ?_ | refine th_take 2 rfl (by kernel_rfl) (by kernel_rfl) (by kernel_rfl) (H.get1) (fun _ hS => ov_load_blk hS.2.2.2 rfl (Try.isAgg2 _) rfl rfl rfl) rfl rfl rfl ?_ | refine th_take 2 rfl (by kernel_rfl) (by kernel_rfl) (by kernel_rfl) (H.get1) (fun _ hS => ov_load_blk hS.2.2.2.2 rfl (Try.isAgg2 _) rfl rfl rfl) rfl rfl rfl ?_
      refine th_take 3 rfl (by kernel_rfl) (by kernel_rfl) (by kernel_rfl) (H.get1) (fun _ hS => ov_fieldAddr rfl Try.underlying40 rfl (Try.sizeOf2 _) (by decide) rfl) rfl rfl rfl ?_
      first | refine th_take 4 rfl (by kernel_rfl) (by kernel_rfl) (by kernel_rfl) (H.get1) (fun _ hS => ov_load_blk hS rfl (Try.isAgg2 _) rfl rfl rfl) rfl rfl rfl ?_ | refine th_take 4 rfl (by kernel_rfl) (by kernel_rfl) (by kernel_rfl) (H.get1) (fun _ hS => ov_load_blk hS.1 rfl (Try.isAgg2 _) rfl rfl rfl) rfl rfl rfl ?_ | refine th_take 4 rfl (by kernel_rfl) (by kernel_rfl) (by kernel_rfl) (H.get1) (fun _ hS => ov_load_blk hS.2.1 rfl (Try.isAgg2 _) rfl rfl rfl) rfl rfl rfl ?_ | refine th_take 4 rfl (by kernel_rfl) (by kernel_rfl) (by kernel_rfl) (H.get1) (fun _ hS => ov_load_blk hS.2.2.1 rfl (Try.isAgg2 _) rfl rfl rfl) rfl rfl rfl ?_ | refine th_take 4 rfl (by kernel_rfl) (by kernel_rfl) (by kernel_rfl) (H.get1) (fun _ hS => ov_load_blk hS.2.2.2.1 rfl (Try.isAgg2 _) rfl rfl rfl) rfl rfl rfl ?_ | refine th_take 4 rfl (by kernel_rfl) (by kernel_rfl) (by kernel_rfl) (H.get1) (fun _ hS => ov_load_blk hS.2.2.2.2.1 rfl (Try.isAgg2 _) rfl rfl rfl) rfl rfl rfl ?_ | refine th_take 4 rfl (by kernel_rfl) (by kernel_rfl) (by kernel_rfl) (H.get1) (fun _ hS => ov_load_blk hS.2 rfl (Try.isAgg2 _) rfl rfl rfl) rfl rfl rfl ?_ | refine th_take 4 rfl (by kernel_rfl) (by kernel_rfl) (by kernel_rfl) (H.get1) (fun _ hS => ov_load_blk hS.2.2 rfl (Try.isAgg2 _) rfl rfl rfl) rfl rfl rfl ?_ | refine th_take 4 rfl (by kernel_rfl) (by kernel_rfl) (by kernel_rfl) (H.get1) (fun _ hS => ov_load_blk hS.2.2.2 rfl (Try.isAgg2 _) rfl rfl rfl) rfl rfl rfl ?_ | refine th_take 4 rfl (by kernel_rfl) (by kernel_rfl) (by kernel_rfl) (H.get1) (fun _ hS => ov_load_blk hS.2.2.2.2 rfl (Try.isAgg2 _) rfl rfl rfl) rfl rfl rfl ?_
      refine th_take 5 rfl (by kernel_rfl) (by kernel_rfl) (by kernel_rfl) (H.get1) (fun _ hS => ov_lss rfl rfl rfl) rfl rfl rfl ?_
      refine th_one 6 (by kernel_rfl) ?_
      first | (refine tw_storeW H.get0 rfl rfl (Try.sizeOf40 _) rfl rfl rfl rfl rfl rfl rfl rfl ?_; intro w6 U; have H := H.upd0 U; clear U) | (refine tw_storeW H.get1 rfl rfl (Try.sizeOf40 _) rfl rfl rfl rfl rfl rfl rfl rfl ?_; intro w6 U; have H := H.upd1 U; clear U) | (refine tw_storeW H.get2 rfl rfl (Try.sizeOf40 _) rfl rfl rfl rfl rfl rfl rfl rfl ?_; intro w6 U; have H := H.upd2 U; clear U) | (refine tw_storeW H.get3 rfl rfl (Try.sizeOf40 _) rfl rfl rfl rfl rfl rfl rfl rfl ?_; intro w6 U; have H := H.upd3 U; clear U) | (refine tw_storeW H.get4 rfl rfl (Try.sizeOf40 _) rfl rfl rfl rfl rfl rfl rfl rfl ?_; intro w6 U; have H := H.upd4 U; clear U) | (refine tw_storeW H.get5 rfl rfl (Try.sizeOf40 _) rfl rfl rfl rfl rfl rfl rfl rfl ?_; intro w6 U; have H := H.upd5 U; clear U)
      refine ⟨H.get1, ?_⟩
      refine th_take 7 rfl (by kernel_rfl) (by kernel_rfl) (by kernel_rfl) (H.get1) (fun _ hS => ov_assign rfl rfl) rfl rfl rfl ?_
      refine th_done (by kernel_rfl) ?_
      refine hK6 _ _ (TrC.keep [7, 17, 11, 6, 3, 1, 2] ?_)
      show TrC _ _ _ _ [(7, _), (17, _), (11, _), (6, _), (3, _), (1, _), (2, _)] _ _
      refine tr_ret (post_ret2 (.inr rfl) rfl (by first | exact ⟨_, rfl, res_blkN H.get0 (Try.isAgg40 _) (Try.sizeOf40 _) rfl rfl⟩ | exact ⟨_, rfl, res_blkN H.get1 (Try.isAgg40 _) (Try.sizeOf40 _) rfl rfl⟩ | exact ⟨_, rfl, res_blkN H.get2 (Try.isAgg40 _) (Try.sizeOf40 _) rfl rfl⟩ | exact ⟨_, rfl, res_blkN H.get3 (Try.isAgg40 _) (Try.sizeOf40 _) rfl rfl⟩ | exact ⟨_, rfl, res_blkN H.get4 (Try.isAgg40 _) (Try.sizeOf40 _) rfl rfl⟩ | exact ⟨_, rfl, res_blkN H.get5 (Try.isAgg40 _) (Try.sizeOf40 _) rfl rfl⟩) rfl ?_)
      exact ⟨rfl, H.drop0.drop0⟩
    · skip
      refine tr_skip (hK4 _ _ (TrC.keep [17, 11, 7, 6, 3, 1, 2] ?_))
      show TrC _ _ _ _ [(17, _), (11, _), (7, _), (6, _), (3, _), (1, _), (2, _)] _ _
      refine tr_seq (fun K7 hK7 => ?_)
      -- region 5: ref.go:61
      have H := H.as_ (rs' := [blk b2 40 [.int .i64 0, .int .i64 0], blk b1 40 [.int .i64 (max s.1 a), .int .i64 (min s.2 b)]]) (by first | (rw [show max s.1 a = a by omega, show min s.2 b = b by omega]; done) | (rw [show max s.1 a = a by omega, show min s.2 b = b by omega]; rfl) | (rw [show max s.1 a = a by omega, show min s.2 b = s.2 by omega]; done) | (rw [show max s.1 a = a by omega, show min s.2 b = s.2 by omega]; rfl) | (rw [show max s.1 a = s.1 by omega, show min s.2 b = b by omega]; done) | (rw [show max s.1 a = s.1 by omega, show min s.2 b = b by omega]; rfl) | (rw [show max s.1 a = s.1 by omega, show min s.2 b = s.2 by omega]; done) | (rw [show max s.1 a = s.1 by omega, show min s.2 b = s.2 by omega]; rfl))
      refine tr_held (fun w' => (blk b1 40 [.int .i64 (max s.1 a), .int .i64 (min s.2 b)]).holds w') mixed rfl H ?_
      intro w7 H
      first | refine th_take 0 rfl (by kernel_rfl) (by kernel_rfl) (by kernel_rfl) (H.get1) (fun _ hS => ov_load_blkN hS rfl (Try.isAgg40 _) (Try.sizeOf40 _) rfl rfl rfl) rfl rfl rfl ?_ | refine th_take 0 rfl (by kernel_rfl) (by kernel_rfl) (by kernel_rfl) (H.get1) (fun _ hS => ov_load_blkN hS.1 rfl (Try.isAgg40 _) (Try.sizeOf40 _) rfl rfl rfl) rfl rfl rfl ?_ | refine th_take 0 rfl (by kernel_rfl) (by kernel_rfl) (by kernel_rfl) (H.get1) (fun _ hS => ov_load_blkN hS.2.1 rfl (Try.isAgg40 _) (Try.sizeOf40 _) rfl rfl rfl) rfl rfl rfl ?_ | refine th_take 0 rfl (by kernel_rfl) (by kernel_rfl) (by kernel_rfl) (H.get1) (fun _ hS => ov_load_blkN hS.2.2.1 rfl (Try.isAgg40 _) (Try.sizeOf40 _) rfl rfl rfl) rfl rfl rfl ?_ | refine th_take 0 rfl (by kernel_rfl) (by kernel_rfl) (by kernel_rfl) (H.get1) (fun _ hS => ov_load_blkN hS.2.2.2.1 rfl (Try.isAgg40 _) (Try.sizeOf40 _) rfl rfl rfl) rfl rfl rfl ?_ | refine th_take 0 rfl (by kernel_rfl) (by kernel_rfl) (by kernel_rfl) (H.get1) (fun _ hS => ov_load_blkN hS.2.2.2.2.1 rfl (Try.isAgg40 _) (Try.sizeOf40 _) rfl rfl rfl) rfl rfl rfl ?_ | refine th_take 0 rfl (by kernel_rfl) (by kernel_rfl) (by kernel_rfl) (H.get1) (fun _ hS => ov_load_blkN hS.2 rfl (Try.isAgg40 _) (Try.sizeOf40 _) rfl rfl rfl) rfl rfl rfl ?_ | refine th_take 0 rfl (by kernel_rfl) (by kernel_rfl) (by kernel_rfl) (H.get1) (fun _ hS => ov_load_blkN hS.2.2 rfl (Try.isAgg40 _) (Try.sizeOf40 _) rfl rfl rfl) rfl rfl rfl ?_ | refine th_take 0 rfl (by kernel_rfl) (by kernel_rfl) (by kernel_rfl) (H.get1) (fun _ hS => ov_load_blkN hS.2.2.2 rfl (Try.isAgg40 _) (Try.sizeOf40 _) rfl rfl rfl) rfl rfl rfl ?_ | refine th_take 0 rfl (by kernel_rfl) (by kernel_rfl) (by kernel_rfl) (H.get1) (fun _ hS => ov_load_blkN hS.2.2.2.2 rfl (Try.isAgg40 _) (Try.sizeOf40 _) rfl rfl rfl) rfl rfl rfl ?_
      refine th_take 1 rfl (by kernel_rfl) (by kernel_rfl) (by kernel_rfl) (H.get1) (fun _ hS => ov_fieldAddr rfl Try.underlying40 rfl (Try.sizeOf2 _) (by decide) rfl) rfl rfl rfl ?_
      first | refine th_take 2 rfl (by kernel_rfl) (by kernel_rfl) (by kernel_rfl) (H.get1) (fun _ hS => ov_load_blk hS rfl (Try.isAgg2 _) rfl rfl rfl) rfl rfl rfl ?_ | refine th_take 2 rfl (by kernel_rfl) (by kernel_rfl) (by kernel_rfl) (H.get1) (fun _ hS => ov_load_blk hS.1 rfl (Try.isAgg2 _) rfl rfl rfl) rfl rfl rfl ?_ | refine th_take 2 rfl (by kernel_rfl) (by kernel_rfl) (by kernel_rfl) (H.get1) (fun _ hS => ov_load_blk hS.2.1 rfl (Try.isAgg2 _) rfl rfl rfl) rfl rfl rfl ?_ | refine th_take 2 rfl (by kernel_rfl) (by kernel_rfl) (by kernel_rfl) (H.get1) (fun _ hS => ov_load_blk hS.2.2.1 rfl (Try.isAgg2 _) rfl rfl rfl) rfl rfl rfl ?_ | refine th_take 2 rfl (by kernel_rfl) (by kernel_rfl) (by kernel_rfl) (H.get1) (fun _ hS => ov_load_blk hS.2.2.2.1 rfl (Try.isAgg2 _) rfl rfl rfl) rfl rfl rfl ?_ | refine th_take 2 rfl (by kernel_rfl) (by kernel_rfl) (by kernel_rfl) (H.get1) (fun _ hS => ov_load_blk hS.2.2.2.2.1 rfl (Try.isAgg2 _) rfl rfl rfl) rfl rfl rfl ?_ | refine th_take 2 rfl (by kernel_rfl) (by kernel_rfl) (by kernel_rfl) (H.get1) (fun _ hS => ov_load_blk hS.2 rfl (Try.isAgg2 _) rfl rfl rfl) rfl rfl rfl ?_ | refine th_take 2 rfl (by kernel_rfl) (by kernel_rfl) (by kernel_rfl) (H.get1) (fun _ hS => ov_load_blk hS.2.2 rfl (Try.isAgg2 _) rfl rfl rfl) rfl rfl rfl ?_ | refine th_take 2 rfl (by kernel_rfl) (by kernel_rfl) (by kernel_rfl) (H.get1) (fun _ hS => ov_load_blk hS.2.2.2 rfl (Try.isAgg2 _) rfl rfl rfl) rfl rfl rfl ?_ | refine th_take 2 rfl (by kernel_rfl) (by kernel_rfl) (by kernel_rfl) (H.get1) (fun _ hS => ov_load_blk hS.2.2.2.2 rfl (Try.isAgg2 _) rfl rfl rfl) rfl rfl rfl ?_
      refine th_take 3 rfl (by kernel_rfl) (by kernel_rfl) (by kernel_rfl) (H.get1) (fun _ hS => ov_fieldAddr rfl Try.underlying40 rfl (Try.sizeOf2 _) (by decide) rfl) rfl rfl rfl ?_
      first | refine th_take 4 rfl (by kernel_rfl) (by kernel_rfl) (by kernel_rfl) (H.get1) (fun _ hS => ov_load_blk hS rfl (Try.isAgg2 _) rfl rfl rfl) rfl rfl rfl ?_ | refine th_take 4 rfl (by kernel_rfl) (by kernel_rfl) (by kernel_rfl) (H.get1) (fun _ hS => ov_load_blk hS.1 rfl (Try.isAgg2 _) rfl rfl rfl) rfl rfl rfl ?_ | refine th_take 4 rfl (by kernel_rfl) (by kernel_rfl) (by kernel_rfl) (H.get1) (fun _ hS => ov_load_blk hS.2.1 rfl (Try.isAgg2 _) rfl rfl rfl) rfl rfl rfl ?_ | refine th_take 4 rfl (by kernel_rfl) (by kernel_rfl) (by kernel_rfl) (H.get1) (fun _ hS => ov_load_blk hS.2.2.1 rfl (Try.isAgg2 _) rfl rfl rfl) rfl rfl rfl ?_ | refine th_take 4 rfl (by kernel_rfl) (by kernel_rfl) (by kernel_rfl) (H.get1) (fun _ hS => ov_load_blk hS.2.2.2.1 rfl (Try.isAgg2 _) rfl rfl rfl) rfl rfl rfl ?_ | refine th_take 4 rfl (by kernel_rfl) (by kernel_rfl) (by kernel_rfl) (H.get1) (fun _ hS => ov_load_blk hS.2.2.2.2.1 rfl (Try.isAgg2 _) rfl rfl rfl) rfl rfl rfl ?_ | refine th_take 4 rfl (by kernel_rfl) (by kernel_rfl) (by kernel_rfl) (H.get1) (fun _ hS => ov_load_blk hS.2 rfl (Try.isAgg2 _) rfl rfl rfl) rfl rfl rfl ?_ | refine th_take 4 rfl (by kernel_rfl) (by kernel_rfl) (by kernel_rfl) (H.get1) (fun _ hS => ov_load_blk hS.2.2 rfl (Try.isAgg2 _) rfl rfl rfl) rfl rfl rfl ?_ | refine th_take 4 rfl (by kernel_rfl) (by kernel_rfl) (by kernel_rfl) (H.get1) (fun _ hS => ov_load_blk hS.2.2.2 rfl (Try.isAgg2 _) rfl rfl rfl) rfl rfl rfl ?_ | refine th_take 4 rfl (by kernel_rfl) (by kernel_rfl) (by kernel_rfl) (H.get1) (fun _ hS => ov_load_blk hS.2.2.2.2 rfl (Try.isAgg2 _) rfl rfl rfl) rfl rfl rfl ?_
      refine th_take 5 rfl (by kernel_rfl) (by kernel_rfl) (by kernel_rfl) (H.get1) (fun _ hS => ov_lss rfl rfl rfl) rfl rfl rfl ?_
      refine th_one 6 (by kernel_rfl) ?_
      first | (refine tw_storeW H.get0 rfl rfl (Try.sizeOf40 _) rfl rfl rfl rfl rfl rfl rfl rfl ?_; intro w8 U; have H := H.upd0 U; clear U) | (refine tw_storeW H.get1 rfl rfl (Try.sizeOf40 _) rfl rfl rfl rfl rfl rfl rfl rfl ?_; intro w8 U; have H := H.upd1 U; clear U) | (refine tw_storeW H.get2 rfl rfl (Try.sizeOf40 _) rfl rfl rfl rfl rfl rfl rfl rfl ?_; intro w8 U; have H := H.upd2 U; clear U) | (refine tw_storeW H.get3 rfl rfl (Try.sizeOf40 _) rfl rfl rfl rfl rfl rfl rfl rfl ?_; intro w8 U; have H := H.upd3 U; clear U) | (refine tw_storeW H.get4 rfl rfl (Try.sizeOf40 _) rfl rfl rfl rfl rfl rfl rfl rfl ?_; intro w8 U; have H := H.upd4 U; clear U) | (refine tw_storeW H.get5 rfl rfl (Try.sizeOf40 _) rfl rfl rfl rfl rfl rfl rfl rfl ?_; intro w8 U; have H := H.upd5 U; clear U)
      refine ⟨H.get1, ?_⟩
      refine th_take 7 rfl (by kernel_rfl) (by kernel_rfl) (by kernel_rfl) (H.get1) (fun _ hS => ov_assign rfl rfl) rfl rfl rfl ?_
      refine th_done (by kernel_rfl) ?_
      refine hK7 _ _ (TrC.keep [7, 17, 11, 6, 3, 1, 2] ?_)
      show TrC _ _ _ _ [(7, _), (17, _), (11, _), (6, _), (3, _), (1, _), (2, _)] _ _
      refine tr_ret (post_ret2 (.inr rfl) rfl (by first | exact ⟨_, rfl, res_blkN H.get0 (Try.isAgg40 _) (Try.sizeOf40 _) rfl rfl⟩ | exact ⟨_, rfl, res_blkN H.get1 (Try.isAgg40 _) (Try.sizeOf40 _) rfl rfl⟩ | exact ⟨_, rfl, res_blkN H.get2 (Try.isAgg40 _) (Try.sizeOf40 _) rfl rfl⟩ | exact ⟨_, rfl, res_blkN H.get3 (Try.isAgg40 _) (Try.sizeOf40 _) rfl rfl⟩ | exact ⟨_, rfl, res_blkN H.get4 (Try.isAgg40 _) (Try.sizeOf40 _) rfl rfl⟩ | exact ⟨_, rfl, res_blkN H.get5 (Try.isAgg40 _) (Try.sizeOf40 _) rfl rfl⟩) rfl ?_)
      exact ⟨rfl, H.drop0.drop0⟩
  · skip
    refine tr_skip (hK2 _ _ (TrC.keep [11, 7, 6, 3, 1, 2] ?_))
    show TrC _ _ _ _ [(11, _), (7, _), (6, _), (3, _), (1, _), (2, _)] _ _
    refine tr_seq (fun K8 hK8 => ?_)
    refine tr_seq (fun K9 hK9 => ?_)
    -- region 3: ref.go:58
    refine tr_region ?_
    refine tr_val (ov_fieldAddr rfl Try.underlying40 rfl (Try.sizeOf2 _) (by decide) rfl) rfl rfl rfl ?_
    first | refine tr_val (ov_load_blk H.get0 rfl (Try.isAgg2 _) rfl rfl rfl) rfl rfl rfl ?_ | refine tr_val (ov_load_blk H.get1 rfl (Try.isAgg2 _) rfl rfl rfl) rfl rfl rfl ?_ | refine tr_val (ov_load_blk H.get2 rfl (Try.isAgg2 _) rfl rfl rfl) rfl rfl rfl ?_ | refine tr_val (ov_load_blk H.get3 rfl (Try.isAgg2 _) rfl rfl rfl) rfl rfl rfl ?_ | refine tr_val (ov_load_blk H.get4 rfl (Try.isAgg2 _) rfl rfl rfl) rfl rfl rfl ?_ | refine tr_val (ov_load_blk H.get5 rfl (Try.isAgg2 _) rfl rfl rfl) rfl rfl rfl ?_
    refine tr_val (ov_move rfl rfl) rfl rfl rfl ?_
    refine tr_val (ov_gtr rfl rfl rfl) rfl rfl rfl ?_
    refine tr_nil (hK9 _ _ (TrC.keep [17, 11, 7, 6, 3, 1, 2] ?_))
    show TrC _ _ _ _ [(17, _), (11, _), (7, _), (6, _), (3, _), (1, _), (2, _)] _ _
    first | refine tr_cond rfl (fun c17 => ?_) (fun c17 => ?_) | refine tr_condb rfl (fun c17 => ?_) (fun c17 => ?_)
    · skip
      -- region 4: ref.go:59
      refine tr_region ?_
      refine tr_val (ov_move rfl rfl) rfl rfl rfl ?_
      refine tr_val (ov_fieldAddr rfl Try.underlying40 rfl (Try.sizeOf2 _) (by decide) rfl) rfl rfl rfl ?_
      first | (refine tr_store H.get0 rfl (Try.sizeOf2 _) rfl rfl rfl rfl rfl rfl rfl ?_; intro w9 U; have H := H.upd0 U; clear U) | (refine tr_store H.get1 rfl (Try.sizeOf2 _) rfl rfl rfl rfl rfl rfl rfl ?_; intro w9 U; have H := H.upd1 U; clear U) | (refine tr_store H.get2 rfl (Try.sizeOf2 _) rfl rfl rfl rfl rfl rfl rfl ?_; intro w9 U; have H := H.upd2 U; clear U) | (refine tr_store H.get3 rfl (Try.sizeOf2 _) rfl rfl rfl rfl rfl rfl rfl ?_; intro w9 U; have H := H.upd3 U; clear U) | (refine tr_store H.get4 rfl (Try.sizeOf2 _) rfl rfl rfl rfl rfl rfl rfl ?_; intro w9 U; have H := H.upd4 U; clear U) | (refine tr_store H.get5 rfl (Try.sizeOf2 _) rfl rfl rfl rfl rfl rfl rfl ?_; intro w9 U; have H := H.upd5 U; clear U)
      try simp only [List.set_cons_zero, List.set_cons_succ, Nat.zero_add] at H
      refine tr_nil (hK8 _ _ (TrC.keep [17, 11, 7, 6, 3, 1, 2] ?_))
      show TrC _ _ _ _ [(17, _), (11, _), (7, _), (6, _), (3, _), (1, _), (2, _)] _ _
      refine tr_seq (fun K10 hK10 => ?_)
      -- region 5: ref.go:61
      have H := H.as_ (rs' := [blk b2 40 [.int .i64 0, .int .i64 0], blk b1 40 [.int .i64 (max s.1 a), .int .i64 (min s.2 b)]]) (by first | (rw [show max s.1 a = a by omega, show min s.2 b = b by omega]; done) | (rw [show max s.1 a = a by omega, show min s.2 b = b by omega]; rfl) | (rw [show max s.1 a = a by omega, show min s.2 b = s.2 by omega]; done) | (rw [show max s.1 a = a by omega, show min s.2 b = s.2 by omega]; rfl) | (rw [show max s.1 a = s.1 by omega, show min s.2 b = b by omega]; done) | (rw [show max s.1 a = s.1 by omega, show min s.2 b = b by omega]; rfl) | (rw [show max s.1 a = s.1 by omega, show min s.2 b = s.2 by omega]; done) | (rw [show max s.1 a = s.1 by omega, show min s.2 b = s.2 by omega]; rfl))
      refine tr_held (fun w' => (blk b1 40 [.int .i64 (max s.1 a), .int .i64 (min s.2 b)]).holds w') mixed rfl H ?_
      intro w10 H
      first | refine th_take 0 rfl (by kernel_rfl) (by kernel_rfl) (by kernel_rfl) (H.get1) (fun _ hS => ov_load_blkN hS rfl (Try.isAgg40 _) (Try.sizeOf40 _) rfl rfl rfl) rfl rfl rfl ?_ | refine th_take 0 rfl (by kernel_rfl) (by kernel_rfl) (by kernel_rfl) (H.get1) (fun _ hS => ov_load_blkN hS.1 rfl (Try.isAgg40 _) (Try.sizeOf40 _) rfl rfl rfl) rfl rfl rfl ?_ | refine th_take 0 rfl (by kernel_rfl) (by kernel_rfl) (by kernel_rfl) (H.get1) (fun _ hS => ov_load_blkN hS.2.1 rfl (Try.isAgg40 _) (Try.sizeOf40 _) rfl rfl rfl) rfl rfl rfl ?_ | refine th_take 0 rfl (by kernel_rfl) (by kernel_rfl) (by kernel_rfl) (H.get1) (fun _ hS => ov_load_blkN hS.2.2.1 rfl (Try.isAgg40 _) (Try.sizeOf40 _) rfl rfl rfl) rfl rfl rfl ?_ | refine th_take 0 rfl (by kernel_rfl) (by kernel_rfl) (by kernel_rfl) (H.get1) (fun _ hS => ov_load_blkN hS.2.2.2.1 rfl (Try.isAgg40 _) (Try.sizeOf40 _) rfl rfl rfl) rfl rfl rfl ?_ | refine th_take 0 rfl (by kernel_rfl) (by kernel_rfl) (by kernel_rfl) (H.get1) (fun _ hS => ov_load_blkN hS.2.2.2.2.1 rfl (Try.isAgg40 _) (Try.sizeOf40 _) rfl rfl rfl) rfl rfl rfl ?_ | refine th_take 0 rfl (by kernel_rfl) (by kernel_rfl) (by kernel_rfl) (H.get1) (fun _ hS => ov_load_blkN hS.2 rfl (Try.isAgg40 _) (Try.sizeOf40 _) rfl rfl rfl) rfl rfl rfl ?_ | refine th_take 0 rfl (by kernel_rfl) (by kernel_rfl) (by kernel_rfl) (H.get1) (fun _ hS => ov_load_blkN hS.2.2 rfl (Try.isAgg40 _) (Try.sizeOf40 _) rfl rfl rfl) rfl rfl rfl ?_ | refine th_take 0 rfl (by kernel_rfl) (by kernel_rfl) (by kernel_rfl) (H.get1) (fun _ hS => ov_load_blkN hS.2.2.2 rfl (Try.isAgg40 _) (Try.sizeOf40 _) rfl rfl rfl) rfl rfl rfl ?_ | refine th_take 0 rfl (by kernel_rfl) (by kernel_rfl) (by kernel_rfl) (H.get1) (fun _ hS => ov_load_blkN hS.2.2.2.2 rfl (Try.isAgg40 _) (Try.sizeOf40 _) rfl rfl rfl) rfl rfl rfl ?_
      refine th_take 1 rfl (by kernel_rfl) (by kernel_rfl) (by kernel_rfl) (H.get1) (fun _ hS => ov_fieldAddr rfl Try.underlying40 rfl (Try.sizeOf2 _) (by decide) rfl) rfl rfl rfl ?_
      first | refine th_take 2 rfl (by kernel_rfl) (by kernel_rfl) (by kernel_rfl) (H.get1) (fun _ hS => ov_load_blk hS rfl (Try.isAgg2 _) rfl rfl rfl) rfl rfl rfl ?_ | refine th_take 2 rfl (by kernel_rfl) (by kernel_rfl) (by kernel_rfl) (H.get1) (fun _ hS => ov_load_blk hS.1 rfl (Try.isAgg2 _) rfl rfl rfl) rfl rfl rfl ?_ | refine th_take 2 rfl (by kernel_rfl) (by kernel_rfl) (by kernel_rfl) (H.get1) (fun _ hS => ov_load_blk hS.2.1 rfl (Try.isAgg2 _) rfl rfl rfl) rfl rfl rfl ?_ | refine th_take 2 rfl (by kernel_rfl) (by kernel_rfl) (by kernel_rfl) (H.get1) (fun _ hS => ov_load_blk hS.2.2.1 rfl (Try.isAgg2 _) rfl rfl rfl) rfl rfl rfl ?_ | refine th_take 2 rfl (by kernel_rfl) (by kernel_rfl) (by kernel_rfl) (H.get1) (fun _ hS => ov_load_blk hS.2.2.2.1 rfl (Try.isAgg2 _) rfl rfl rfl) rfl rfl rfl ?_ | refine th_take 2 rfl (by kernel_rfl) (by kernel_rfl) (by kernel_rfl) (H.get1) (fun _ hS => ov_load_blk hS.2.2.2.2.1 rfl (Try.isAgg2 _) rfl rfl rfl) rfl rfl rfl ?_ | refine th_take 2 rfl (by kernel_rfl) (by kernel_rfl) (by kernel_rfl) (H.get1) (fun _ hS => ov_load_blk hS.2 rfl (Try.isAgg2 _) rfl rfl rfl) rfl rfl rfl ?_ | refine th_take 2 rfl (by kernel_rfl) (by kernel_rfl) (by kernel_rfl) (H.get1) (fun _ hS => ov_load_blk hS.2.2 rfl (Try.isAgg2 _) rfl rfl rfl) rfl rfl rfl ?_ | refine th_take 2 rfl (by kernel_rfl) (by kernel_rfl) (by kernel_rfl) (H.get1) (fun _ hS => ov_load_blk hS.2.2.2 rfl (Try.isAgg2 _) rfl rfl rfl) rfl rfl rfl ?_ | refine th_take 2 rfl (by kernel_rfl) (by kernel_rfl) (by kernel_rfl) (H.get1) (fun _ hS => ov_load_blk hS.2.2.2.2 rfl (Try.isAgg2 _) rfl rfl rfl) rfl rfl rfl ?_
      refine th_take 3 rfl (by kernel_rfl) (by kernel_rfl) (by kernel_rfl) (H.get1) (fun _ hS => ov_fieldAddr rfl Try.underlying40 rfl (Try.sizeOf2 _) (by decide) rfl) rfl rfl rfl ?_
      first | refine th_take 4 rfl (by kernel_rfl) (by kernel_rfl) (by kernel_rfl) (H.get1) (fun _ hS => ov_load_blk hS rfl (Try.isAgg2 _) rfl rfl rfl) rfl rfl rfl ?_ | refine th_take 4 rfl (by kernel_rfl) (by kernel_rfl) (by kernel_rfl) (H.get1) (fun _ hS => ov_load_blk hS.1 rfl (Try.isAgg2 _) rfl rfl rfl) rfl rfl rfl ?_ | refine th_take 4 rfl (by kernel_rfl) (by kernel_rfl) (by kernel_rfl) (H.get1) (fun _ hS => ov_load_blk hS.2.1 rfl (Try.isAgg2 _) rfl rfl rfl) rfl rfl rfl ?_ | refine th_take 4 rfl (by kernel_rfl) (by kernel_rfl) (by kernel_rfl) (H.get1) (fun _ hS => ov_load_blk hS.2.2.1 rfl (Try.isAgg2 _) rfl rfl rfl) rfl rfl rfl ?_ | refine th_take 4 rfl (by kernel_rfl) (by kernel_rfl) (by kernel_rfl) (H.get1) (fun _ hS => ov_load_blk hS.2.2.2.1 rfl (Try.isAgg2 _) rfl rfl rfl) rfl rfl rfl ?_ | refine th_take 4 rfl (by kernel_rfl) (by kernel_rfl) (by kernel_rfl) (H.get1) (fun _ hS => ov_load_blk hS.2.2.2.2.1 rfl (Try.isAgg2 _) rfl rfl rfl) rfl rfl rfl ?_ | refine th_take 4 rfl (by kernel_rfl) (by kernel_rfl) (by kernel_rfl) (H.get1) (fun _ hS => ov_load_blk hS.2 rfl (Try.isAgg2 _) rfl rfl rfl) rfl rfl rfl ?_ | refine th_take 4 rfl (by kernel_rfl) (by kernel_rfl) (by kernel_rfl) (H.get1) (fun _ hS => ov_load_blk hS.2.2 rfl (Try.isAgg2 _) rfl rfl rfl) rfl rfl rfl ?_ | refine th_take 4 rfl (by kernel_rfl) (by kernel_rfl) (by kernel_rfl) (H.get1) (fun _ hS => ov_load_blk hS.2.2.2 rfl (Try.isAgg2 _) rfl rfl rfl) rfl rfl rfl ?_ | refine th_take 4 rfl (by kernel_rfl) (by kernel_rfl) (by kernel_rfl) (H.get1) (fun _ hS => ov_load_blk hS.2.2.2.2 rfl (Try.isAgg2 _) rfl rfl rfl) rfl rfl rfl ?_
      refine th_take 5 rfl (by kernel_rfl) (by kernel_rfl) (by kernel_rfl) (H.get1) (fun _ hS => ov_lss rfl rfl rfl) rfl rfl rfl ?_
      refine th_one 6 (by kernel_rfl) ?_
      first | (refine tw_storeW H.get0 rfl rfl (Try.sizeOf40 _) rfl rfl rfl rfl rfl rfl rfl rfl ?_; intro w11 U; have H := H.upd0 U; clear U) | (refine tw_storeW H.get1 rfl rfl (Try.sizeOf40 _) rfl rfl rfl rfl rfl rfl rfl rfl ?_; intro w11 U; have H := H.upd1 U; clear U) | (refine tw_storeW H.get2 rfl rfl (Try.sizeOf40 _) rfl rfl rfl rfl rfl rfl rfl rfl ?_; intro w11 U; have H := H.upd2 U; clear U) | (refine tw_storeW H.get3 rfl rfl (Try.sizeOf40 _) rfl rfl rfl rfl rfl rfl rfl rfl ?_; intro w11 U; have H := H.upd3 U; clear U) | (refine tw_storeW H.get4 rfl rfl (Try.sizeOf40 _) rfl rfl rfl rfl rfl rfl rfl rfl ?_; intro w11 U; have H := H.upd4 U; clear U) | (refine tw_storeW H.get5 rfl rfl (Try.sizeOf40 _) rfl rfl rfl rfl rfl rfl rfl rfl ?_; intro w11 U; have H := H.upd5 U; clear U)
      refine ⟨H.get1, ?_⟩
      refine th_take 7 rfl (by kernel_rfl) (by kernel_rfl) (by kernel_rfl) (H.get1) (fun _ hS => ov_assign rfl rfl) rfl rfl rfl ?_
      refine th_done (by kernel_rfl) ?_
      refine hK10 _ _ (TrC.keep [7, 17, 11, 6, 3, 1, 2] ?_)
      show TrC _ _ _ _ [(7, _), (17, _), (11, _), (6, _), (3, _), (1, _), (2, _)] _ _
      refine tr_ret (post_ret2 (.inr rfl) rfl (by first | exact ⟨_, rfl, res_blkN H.get0 (Try.isAgg40 _) (Try.sizeOf40 _) rfl rfl⟩ | exact ⟨_, rfl, res_blkN H.get1 (Try.isAgg40 _) (Try.sizeOf40 _) rfl rfl⟩ | exact ⟨_, rfl, res_blkN H.get2 (Try.isAgg40 _) (Try.sizeOf40 _) rfl rfl⟩ | exact ⟨_, rfl, res_blkN H.get3 (Try.isAgg40 _) (Try.sizeOf40 _) rfl rfl⟩ | exact ⟨_, rfl, res_blkN H.get4 (Try.isAgg40 _) (Try.sizeOf40 _) rfl rfl⟩ | exact ⟨_, rfl, res_blkN H.get5 (Try.isAgg40 _) (Try.sizeOf40 _) rfl rfl⟩) rfl ?_)
      exact ⟨rfl, H.drop0.drop0⟩
    · skip
      refine tr_skip (hK8 _ _ (TrC.keep [17, 11, 7, 6, 3, 1, 2] ?_))
      show TrC _ _ _ _ [(17, _), (11, _), (7, _), (6, _), (3, _), (1, _), (2, _)] _ _
      refine tr_seq (fun K11 hK11 => ?_)
      -- region 5: ref.go:61
      have H := H.as_ (rs' := [blk b2 40 [.int .i64 0, .int .i64 0], blk b1 40 [.int .i64 (max s.1 a), .int .i64 (min s.2 b)]]) (by first | (rw [show max s.1 a = a by omega, show min s.2 b = b by omega]; done) | (rw [show max s.1 a = a by omega, show min s.2 b = b by omega]; rfl) | (rw [show max s.1 a = a by omega, show min s.2 b = s.2 by omega]; done) | (rw [show max s.1 a = a by omega, show min s.2 b = s.2 by omega]; rfl) | (rw [show max s.1 a = s.1 by omega, show min s.2 b = b by omega]; done) | (rw [show max s.1 a = s.1 by omega, show min s.2 b = b by omega]; rfl) | (rw [show max s.1 a = s.1 by omega, show min s.2 b = s.2 by omega]; done) | (rw [show max s.1 a = s.1 by omega, show min s.2 b = s.2 by omega]; rfl))
      refine tr_held (fun w' => (blk b1 40 [.int .i64 (max s.1 a), .int .i64 (min s.2 b)]).holds w') mixed rfl H ?_
      intro w12 H
      first | refine th_take 0 rfl (by kernel_rfl) (by kernel_rfl) (by kernel_rfl) (H.get1) (fun _ hS => ov_load_blkN hS rfl (Try.isAgg40 _) (Try.sizeOf40 _) rfl rfl rfl) rfl rfl rfl ?_ | refine th_take 0 rfl (by kernel_rfl) (by kernel_rfl) (by kernel_rfl) (H.get1) (fun _ hS => ov_load_blkN hS.1 rfl (Try.isAgg40 _) (Try.sizeOf40 _) rfl rfl rfl) rfl rfl rfl ?_ | refine th_take 0 rfl (by kernel_rfl) (by kernel_rfl) (by kernel_rfl) (H.get1) (fun _ hS => ov_load_blkN hS.2.1 rfl (Try.isAgg40 _) (Try.sizeOf40 _) rfl rfl rfl) rfl rfl rfl ?_ | refine th_take 0 rfl (by kernel_rfl) (by kernel_rfl) (by kernel_rfl) (H.get1) (fun _ hS => ov_load_blkN hS.2.2.1 rfl (Try.isAgg40 _) (Try.sizeOf40 _) rfl rfl rfl) rfl rfl rfl ?_ | refine th_take 0 rfl (by kernel_rfl) (by kernel_rfl) (by kernel_rfl) (H.get1) (fun _ hS => ov_load_blkN hS.2.2.2.1 rfl (Try.isAgg40 _) (Try.sizeOf40 _) rfl rfl rfl) rfl rfl rfl ?_ | refine th_take 0 rfl (by kernel_rfl) (by kernel_rfl) (by kernel_rfl) (H.get1) (fun _ hS => ov_load_blkN hS.2.2.2.2.1 rfl (Try.isAgg40 _) (Try.sizeOf40 _) rfl rfl rfl) rfl rfl rfl ?_ | refine th_take 0 rfl (by kernel_rfl) (by kernel_rfl) (by kernel_rfl) (H.get1) (fun _ hS => ov_load_blkN hS.2 rfl (Try.isAgg40 _) (Try.sizeOf40 _) rfl rfl rfl) rfl rfl rfl ?_ | refine th_take 0 rfl (by kernel_rfl) (by kernel_rfl) (by kernel_rfl) (H.get1) (fun _ hS => ov_load_blkN hS.2.2 rfl (Try.isAgg40 _) (Try.sizeOf40 _) rfl rfl rfl) rfl rfl rfl ?_ | refine th_take 0 rfl (by kernel_rfl) (by kernel_rfl) (by kernel_rfl) (H.get1) (fun _ hS => ov_load_blkN hS.2.2.2 rfl (Try.isAgg40 _) (Try.sizeOf40 _) rfl rfl rfl) rfl rfl rfl ?_ | refine th_take 0 rfl (by kernel_rfl) (by kernel_rfl) (by kernel_rfl) (H.get1) (fun _ hS => ov_load_blkN hS.2.2.2.2 rfl (Try.isAgg40 _) (Try.sizeOf40 _) rfl rfl rfl) rfl rfl rfl ?_
      refine th_take 1 rfl (by kernel_rfl) (by kernel_rfl) (by kernel_rfl) (H.get1) (fun _ hS => ov_fieldAddr rfl Try.underlying40 rfl (Try.sizeOf2 _) (by decide) rfl) rfl rfl rfl ?_
      first | refine th_take 2 rfl (by kernel_rfl) (by kernel_rfl) (by kernel_rfl) (H.get1) (fun _ hS => ov_load_blk hS rfl (Try.isAgg2 _) rfl rfl rfl) rfl rfl rfl ?_ | refine th_take 2 rfl (by kernel_rfl) (by kernel_rfl) (by kernel_rfl) (H.get1) (fun _ hS => ov_load_blk hS.1 rfl (Try.isAgg2 _) rfl rfl rfl) rfl rfl rfl ?_ | refine th_take 2 rfl (by kernel_rfl) (by kernel_rfl) (by kernel_rfl) (H.get1) (fun _ hS => ov_load_blk hS.2.1 rfl (Try.isAgg2 _) rfl rfl rfl) rfl rfl rfl ?_ | refine th_take 2 rfl (by kernel_rfl) (by kernel_rfl) (by kernel_rfl) (H.get1) (fun _ hS => ov_load_blk hS.2.2.1 rfl (Try.isAgg2 _) rfl rfl rfl) rfl rfl rfl ?_ | refine th_take 2 rfl (by kernel_rfl) (by kernel_rfl) (by kernel_rfl) (H.get1) (fun _ hS => ov_load_blk hS.2.2.2.1 rfl (Try.isAgg2 _) rfl rfl rfl) rfl rfl rfl ?_ | refine th_take 2 rfl (by kernel_rfl) (by kernel_rfl) (by kernel_rfl) (H.get1) (fun _ hS => ov_load_blk hS.2.2.2.2.1 rfl (Try.isAgg2 _) rfl rfl rfl) rfl rfl rfl ?_ | refine th_take 2 rfl (by kernel_rfl) (by kernel_rfl) (by kernel_rfl) (H.get1) (fun _ hS => ov_load_blk hS.2 rfl (Try.isAgg2 _) rfl rfl rfl) rfl rfl rfl ?_ | refine th_take 2 rfl (by kernel_rfl) (by kernel_rfl) (by kernel_rfl) (H.get1) (fun _ hS => ov_load_blk hS.2.2 rfl (Try.isAgg2 _) rfl rfl rfl) rfl rfl rfl ?_ | refine th_take 2 rfl (by kernel_rfl) (by kernel_rfl) (by kernel_rfl) (H.get1) (fun _ hS => ov_load_blk hS.2.2.2 rfl (Try.isAgg2 _) rfl rfl rfl) rfl rfl rfl ?_ | refine th_take 2 rfl (by kernel_rfl) (by kernel_rfl) (by kernel_rfl) (H.get1) (fun _ hS => ov_load_blk hS.2.2.2.2 rfl (Try.isAgg2 _) rfl rfl rfl) rfl rfl rfl ?_
      refine th_take 3 rfl (by kernel_rfl) (by kernel_rfl) (by kernel_rfl) (H.get1) (fun _ hS => ov_fieldAddr rfl Try.underlying40 rfl (Try.sizeOf2 _) (by decide) rfl) rfl rfl rfl ?_
      first | refine th_take 4 rfl (by kernel_rfl) (by kernel_rfl) (by kernel_rfl) (H.get1) (fun _ hS => ov_load_blk hS rfl (Try.isAgg2 _) rfl rfl rfl) rfl rfl rfl ?_ | refine th_take 4 rfl (by kernel_rfl) (by kernel_rfl) (by kernel_rfl) (H.get1) (fun _ hS => ov_load_blk hS.1 rfl (Try.isAgg2 _) rfl rfl rfl) rfl rfl rfl ?_ | refine th_take 4 rfl (by kernel_rfl) (by kernel_rfl) (by kernel_rfl) (H.get1) (fun _ hS => ov_load_blk hS.2.1 rfl (Try.isAgg2 _) rfl rfl rfl) rfl rfl rfl ?_ | refine th_take 4 rfl (by kernel_rfl) (by kernel_rfl) (by kernel_rfl) (H.get1) (fun _ hS => ov_load_blk hS.2.2.1 rfl (Try.isAgg2 _) rfl rfl rfl) rfl rfl rfl ?_ | refine th_take 4 rfl (by kernel_rfl) (by kernel_rfl) (by kernel_rfl) (H.get1) (fun _ hS => ov_load_blk hS.2.2.2.1 rfl (Try.isAgg2 _) rfl rfl rfl) rfl rfl rfl ?_ | refine th_take 4 rfl (by kernel_rfl) (by kernel_rfl) (by kernel_rfl) (H.get1) (fun _ hS => ov_load_blk hS.2.2.2.2.1 rfl (Try.isAgg2 _) rfl rfl rfl) rfl rfl rfl ?_ | refine th_take 4 rfl (by kernel_rfl) (by kernel_rfl) (by kernel_rfl) (H.get1) (fun _ hS => ov_load_blk hS.2 rfl (Try.isAgg2 _) rfl rfl rfl) rfl rfl rfl ?_ | refine th_take 4 rfl (by kernel_rfl) (by kernel_rfl) (by kernel_rfl) (H.get1) (fun _ hS => ov_load_blk hS.2.2 rfl (Try.isAgg2 _) rfl rfl rfl) rfl rfl rfl ?_ | refine th_take 4 rfl (by kernel_rfl) (by kernel_rfl) (by kernel_rfl) (H.get1) (fun _ hS => ov_load_blk hS.2.2.2 rfl (Try.isAgg2 _) rfl rfl rfl) rfl rfl rfl ?_ | refine th_take 4 rfl (by kernel_rfl) (by kernel_rfl) (by kernel_rfl) (H.get1) (fun _ hS => ov_load_blk hS.2.2.2.2 rfl (Try.isAgg2 _) rfl rfl rfl) rfl rfl rfl ?_
      refine th_take 5 rfl (by kernel_rfl) (by kernel_rfl) (by kernel_rfl) (H.get1) (fun _ hS => ov_lss rfl rfl rfl) rfl rfl rfl ?_
      refine th_one 6 (by kernel_rfl) ?_
      first | (refine tw_storeW H.get0 rfl rfl (Try.sizeOf40 _) rfl rfl rfl rfl rfl rfl rfl rfl ?_; intro w13 U; have H := H.upd0 U; clear U) | (refine tw_storeW H.get1 rfl rfl (Try.sizeOf40 _) rfl rfl rfl rfl rfl rfl rfl rfl ?_; intro w13 U; have H := H.upd1 U; clear U) | (refine tw_storeW H.get2 rfl rfl (Try.sizeOf40 _) rfl rfl rfl rfl rfl rfl rfl rfl ?_; intro w13 U; have H := H.upd2 U; clear U) | (refine tw_storeW H.get3 rfl rfl (Try.sizeOf40 _) rfl rfl rfl rfl rfl rfl rfl rfl ?_; intro w13 U; have H := H.upd3 U; clear U) | (refine tw_storeW H.get4 rfl rfl (Try.sizeOf40 _) rfl rfl rfl rfl rfl rfl rfl rfl ?_; intro w13 U; have H := H.upd4 U; clear U) | (refine tw_storeW H.get5 rfl rfl (Try.sizeOf40 _) rfl rfl rfl rfl rfl rfl rfl rfl ?_; intro w13 U; have H := H.upd5 U; clear U)
      refine ⟨H.get1, ?_⟩
      refine th_take 7 rfl (by kernel_rfl) (by kernel_rfl) (by kernel_rfl) (H.get1) (fun _ hS => ov_assign rfl rfl) rfl rfl rfl ?_
      refine th_done (by kernel_rfl) ?_
      refine hK11 _ _ (TrC.keep [7, 17, 11, 6, 3, 1, 2] ?_)
      show TrC _ _ _ _ [(7, _), (17, _), (11, _), (6, _), (3, _), (1, _), (2, _)] _ _
      refine tr_ret (post_ret2 (.inr rfl) rfl (by first | exact ⟨_, rfl, res_blkN H.get0 (Try.isAgg40 _) (Try.sizeOf40 _) rfl rfl⟩ | exact ⟨_, rfl, res_blkN H.get1 (Try.isAgg40 _) (Try.sizeOf40 _) rfl rfl⟩ | exact ⟨_, rfl, res_blkN H.get2 (Try.isAgg40 _) (Try.sizeOf40 _) rfl rfl⟩ | exact ⟨_, rfl, res_blkN H.get3 (Try.isAgg40 _) (Try.sizeOf40 _) rfl rfl⟩ | exact ⟨_, rfl, res_blkN H.get4 (Try.isAgg40 _) (Try.sizeOf40 _) rfl rfl⟩ | exact ⟨_, rfl, res_blkN H.get5 (Try.isAgg40 _) (Try.sizeOf40 _) rfl rfl⟩) rfl ?_)
      exact ⟨rfl, H.drop0.drop0⟩

/-! curfew/span.Row -/
set_option maxRecDepth 20000 in
theorem Row_c (A : Option Addr) (c : Nat) (L : List Sp) (w : World) (hR : Rd w A 2 (L.map encSpan)) (hL : L.length ≤ 4294967296) : Does Try.prog 38 #[.slice A L.length c] w (fun v w' => v = .int .i64 (rowV L) ∧ SH w noBlocks [] w') := by
  refine does_enter1 Try.func38 rfl Try.ntmps38 rfl ?_
  have H := SH.start w noBlocks
  refine tr_seq (fun K1 hK1 => ?_)
  -- region 0: span.go:14
  refine tr_region ?_
  refine tr_val (ov_assign rfl rfl) rfl rfl rfl ?_
  refine tr_nil (hK1 _ _ (TrC.keep [2, 0] ?_))
  show TrC _ _ _ _ [(2, _), (0, _)] _ _
  refine tr_seq (fun K2 hK2 => ?_)
  refine tr_seq (fun K3 hK3 => ?_)
  -- region 1: span.go:15
  refine tr_region ?_
  refine tr_val (ov_move rfl rfl) rfl rfl rfl ?_
  refine tr_val (ov_len rfl rfl Try.underlying33 rfl) rfl rfl rfl ?_
  refine tr_val (ov_gtr rfl rfl rfl) rfl rfl rfl ?_
  refine tr_nil (hK3 _ _ (TrC.keep [8, 2, 0] ?_))
  show TrC _ _ _ _ [(8, _), (2, _), (0, _)] _ _
  first | refine tr_cond rfl (fun c8 => ?_) (fun c8 => ?_) | refine tr_condb rfl (fun c8 => ?_) (fun c8 => ?_)
  · skip
    refine tr_seq (fun K4 hK4 => ?_)
    -- region 2: span.go:16
    refine tr_region ?_
    refine tr_val (ov_assign rfl rfl) rfl rfl rfl ?_
    refine tr_nil (hK4 _ _ (TrC.keep [2, 8, 0] ?_))
    show TrC _ _ _ _ [(2, _), (8, _), (0, _)] _ _
    refine tr_ret (post_ret1 (.inr rfl) rfl rfl ?_)
    rw [rowV_long (by omega)]; exact ⟨rfl, H⟩
  · skip
    refine tr_skip (hK2 _ _ (TrC.keep [8, 2, 0] ?_))
    show TrC _ _ _ _ [(8, _), (2, _), (0, _)] _ _
    refine tr_seq (fun K5 hK5 => ?_)
    -- region 3: span.go:18
    refine tr_region ?_
    refine tr_val (ov_assign rfl rfl) rfl rfl rfl ?_
    refine tr_nil (hK5 _ _ (TrC.keep [3, 8, 2, 0] ?_))
    show TrC _ _ _ _ [(3, _), (8, _), (2, _), (0, _)] _ _
    refine tr_seq (fun K6 hK6 => ?_)
    refine tr_seq (fun K7 hK7 => ?_)
    -- region 4: span.go:19
    refine tr_region ?_
    refine tr_val (ov_move rfl rfl) rfl rfl rfl ?_
    refine tr_val (ov_len rfl rfl Try.underlying33 rfl) rfl rfl rfl ?_
    refine tr_val (ov_move rfl rfl) rfl rfl rfl ?_
    refine tr_nil (hK7 _ _ (TrC.keep [11, 10, 9, 3, 8, 2, 0] ?_))
    show TrC _ _ _ _ [(11, _), (10, _), (9, _), (3, _), (8, _), (2, _), (0, _)] _ _
    refine tr_block ?_
    refine tr_loop_ (X := Int × Int) [10, 9, 8, 0] (fun ⟨i, e⟩ => [(11, .int .i64 i), (3, .int .i64 e)]) (fun ⟨i, e⟩ w' => 0 ≤ i ∧ i ≤ L.length ∧ good e (L.drop i.toNat) = good 0 L ∧ SH w noBlocks [] w') (fun ⟨i, e⟩ => (L.length - i).toNat) (⟨0, 0⟩) (Sub.cons rfl (Sub.cons rfl (Sub.cons rfl (Sub.cons rfl (Sub.cons rfl (Sub.cons rfl Sub.nil)))))) (⟨by omega, by omega, rfl, H⟩) ?_
    rintro ⟨i, e⟩ w1 ⟨hi0, hi1, hg, H⟩ K8 hK8
    show TrC _ _ _ _ [(11, _), (3, _), (10, _), (9, _), (8, _), (0, _)] _ _
    refine tr_seq (fun K9 hK9 => ?_)
    -- region 5: span.go:19
    refine tr_region ?_
    refine tr_val (ov_lss rfl rfl rfl) rfl rfl rfl ?_
    refine tr_nil (hK9 _ _ (TrC.keep [12, 11, 3, 10, 9, 8, 0] ?_))
    show TrC _ _ _ _ [(12, _), (11, _), (3, _), (10, _), (9, _), (8, _), (0, _)] _ _
    refine tr_seq (fun K10 hK10 => ?_)
    first | refine tr_cond rfl (fun c12 => ?_) (fun c12 => ?_) | refine tr_condb rfl (fun c12 => ?_) (fun c12 => ?_)
    · skip
      refine tr_skip (hK10 _ _ (TrC.keep [12, 11, 3, 10, 9, 8, 0] ?_))
      show TrC _ _ _ _ [(12, _), (11, _), (3, _), (10, _), (9, _), (8, _), (0, _)] _ _
      refine tr_seq (fun K11 hK11 => ?_)
      refine tr_block ?_
      refine tr_seq (fun K12 hK12 => ?_)
      -- region 6: span.go:19
      refine tr_region ?_
      refine tr_val (ov_indexAddrR (H.rd0 hR) rfl Try.underlying33 (Try.sizeOf40 _) rfl rfl (by omega) (by omega)) rfl rfl rfl ?_
      refine tr_val (ld_Span (H.rd0 hR) rfl (Try.isAgg40 _) (Try.sizeOf40 _) rfl (by omega) (by omega)) rfl rfl rfl ?_
      refine tr_alloc H rfl (Try.zeroValue40 _) rfl rfl rfl rfl ?_
      intro b1 w2 hb1 H
      first | (refine tr_storeW H.get0 rfl (Try.sizeOf40 _) rfl rfl rfl rfl rfl rfl rfl rfl ?_; intro w3 U; have H := H.upd0 U; clear U) | (refine tr_storeW H.get1 rfl (Try.sizeOf40 _) rfl rfl rfl rfl rfl rfl rfl rfl ?_; intro w3 U; have H := H.upd1 U; clear U) | (refine tr_storeW H.get2 rfl (Try.sizeOf40 _) rfl rfl rfl rfl rfl rfl rfl rfl ?_; intro w3 U; have H := H.upd2 U; clear U) | (refine tr_storeW H.get3 rfl (Try.sizeOf40 _) rfl rfl rfl rfl rfl rfl rfl rfl ?_; intro w3 U; have H := H.upd3 U; clear U) | (refine tr_storeW H.get4 rfl (Try.sizeOf40 _) rfl rfl rfl rfl rfl rfl rfl rfl ?_; intro w3 U; have H := H.upd4 U; clear U) | (refine tr_storeW H.get5 rfl (Try.sizeOf40 _) rfl rfl rfl rfl rfl rfl rfl rfl ?_; intro w3 U; have H := H.upd5 U; clear U)
      refine tr_nil (hK12 _ _ (TrC.keep [5, 12, 11, 3, 10, 9, 8, 0] ?_))
      show TrC _ _ _ _ [(5, _), (12, _), (11, _), (3, _), (10, _), (9, _), (8, _), (0, _)] _ _
      refine tr_seq (fun K13 hK13 => ?_)
      refine tr_seq (fun K14 hK14 => ?_)
      -- region 7: span.go:20
      refine tr_region ?_
      first | refine tr_val (ov_load_blkN H.get0 rfl (Try.isAgg40 _) (Try.sizeOf40 _) rfl rfl rfl) rfl rfl rfl ?_ | refine tr_val (ov_load_blkN H.get1 rfl (Try.isAgg40 _) (Try.sizeOf40 _) rfl rfl rfl) rfl rfl rfl ?_ | refine tr_val (ov_load_blkN H.get2 rfl (Try.isAgg40 _) (Try.sizeOf40 _) rfl rfl rfl) rfl rfl rfl ?_ | refine tr_val (ov_load_blkN H.get3 rfl (Try.isAgg40 _) (Try.sizeOf40 _) rfl rfl rfl) rfl rfl rfl ?_ | refine tr_val (ov_load_blkN H.get4 rfl (Try.isAgg40 _) (Try.sizeOf40 _) rfl rfl rfl) rfl rfl rfl ?_ | refine tr_val (ov_load_blkN H.get5 rfl (Try.isAgg40 _) (Try.sizeOf40 _) rfl rfl rfl) rfl rfl rfl ?_
      refine tr_call (Right_c (gt L i) _) rfl rfl rfl Try.call35 rfl rfl rfl ?_
      rintro _ w4 ⟨rfl, HC⟩
      have H := H.call0n HC
      first | refine tr_val (ov_not rfl rfl) rfl rfl rfl ?_ | refine tr_val (ov_notb rfl rfl) rfl rfl rfl ?_
      refine tr_val (ov_move rfl rfl) rfl rfl rfl ?_
      first | refine tr_split (t := 18) rfl (fun s18 => ?_) (fun s18 => ?_) | refine tr_splitb (t := 18) rfl (fun s18 => ?_) (fun s18 => ?_)
      · skip
        refine tr_pass rfl rfl rfl ?_
        refine tr_pass rfl rfl rfl ?_
        refine tr_pass rfl rfl rfl ?_
        refine tr_pass rfl rfl rfl ?_
        refine tr_val (ov_pick (vb := undef) rfl rfl rfl rfl) rfl rfl rfl ?_
        refine tr_nil (hK14 _ _ (TrC.keep [23, 5, 12, 11, 3, 10, 9, 8, 0] ?_))
        show TrC _ _ _ _ [(23, _), (5, _), (12, _), (11, _), (3, _), (10, _), (9, _), (8, _), (0, _)] _ _
        refine tr_cond_t rfl rfl ?_
        refine tr_seq (fun K15 hK15 => ?_)
        -- region 8: span.go:21
        refine tr_region ?_
        refine tr_val (ov_assign rfl rfl) rfl rfl rfl ?_
        refine tr_nil (hK15 _ _ (TrC.keep [2, 23, 5, 12, 11, 3, 10, 9, 8, 0] ?_))
        show TrC _ _ _ _ [(2, _), (23, _), (5, _), (12, _), (11, _), (3, _), (10, _), (9, _), (8, _), (0, _)] _ _
        refine tr_ret (post_ret1 (.inr rfl) rfl rfl ?_)
        rw [rowV_bad (by omega) (hg.symm.trans (good_not hi0 (by omega) (.inl s18)))]; exact ⟨rfl, H.drop0⟩
      · skip
        refine tr_val (ov_fieldAddr rfl Try.underlying40 rfl (Try.sizeOf2 _) (by decide) rfl) rfl rfl rfl ?_
        first | refine tr_val (ov_load_blk H.get0 rfl (Try.isAgg2 _) rfl rfl rfl) rfl rfl rfl ?_ | refine tr_val (ov_load_blk H.get1 rfl (Try.isAgg2 _) rfl rfl rfl) rfl rfl rfl ?_ | refine tr_val (ov_load_blk H.get2 rfl (Try.isAgg2 _) rfl rfl rfl) rfl rfl rfl ?_ | refine tr_val (ov_load_blk H.get3 rfl (Try.isAgg2 _) rfl rfl rfl) rfl rfl rfl ?_ | refine tr_val (ov_load_blk H.get4 rfl (Try.isAgg2 _) rfl rfl rfl) rfl rfl rfl ?_ | refine tr_val (ov_load_blk H.get5 rfl (Try.isAgg2 _) rfl rfl rfl) rfl rfl rfl ?_
        refine tr_val (ov_move rfl rfl) rfl rfl rfl ?_
        refine tr_val (ov_lss rfl rfl rfl) rfl rfl rfl ?_
        refine tr_val (ov_pick_f (va := undef) rfl rfl rfl rfl) rfl rfl rfl ?_
        refine tr_nil (hK14 _ _ (TrC.keep [23, 5, 12, 11, 3, 10, 9, 8, 0] ?_))
        show TrC _ _ _ _ [(23, _), (5, _), (12, _), (11, _), (3, _), (10, _), (9, _), (8, _), (0, _)] _ _
        first | refine tr_cond rfl (fun c23 => ?_) (fun c23 => ?_) | refine tr_condb rfl (fun c23 => ?_) (fun c23 => ?_)
        · skip
          refine tr_seq (fun K16 hK16 => ?_)
          -- region 8: span.go:21
          refine tr_region ?_
          refine tr_val (ov_assign rfl rfl) rfl rfl rfl ?_
          refine tr_nil (hK16 _ _ (TrC.keep [2, 23, 5, 12, 11, 3, 10, 9, 8, 0] ?_))
          show TrC _ _ _ _ [(2, _), (23, _), (5, _), (12, _), (11, _), (3, _), (10, _), (9, _), (8, _), (0, _)] _ _
          refine tr_ret (post_ret1 (.inr rfl) rfl rfl ?_)
          rw [rowV_bad (by omega) (hg.symm.trans (good_not hi0 (by omega) (.inr (by omega))))]; exact ⟨rfl, H.drop0⟩
        · skip
          refine tr_skip (hK13 _ _ (TrC.keep [23, 5, 12, 11, 3, 10, 9, 8, 0] ?_))
          show TrC _ _ _ _ [(23, _), (5, _), (12, _), (11, _), (3, _), (10, _), (9, _), (8, _), (0, _)] _ _
          -- region 9: span.go:23
          refine tr_region ?_
          refine tr_val (ov_fieldAddr rfl Try.underlying40 rfl (Try.sizeOf2 _) (by decide) rfl) rfl rfl rfl ?_
          first | refine tr_val (ov_load_blk H.get0 rfl (Try.isAgg2 _) rfl rfl rfl) rfl rfl rfl ?_ | refine tr_val (ov_load_blk H.get1 rfl (Try.isAgg2 _) rfl rfl rfl) rfl rfl rfl ?_ | refine tr_val (ov_load_blk H.get2 rfl (Try.isAgg2 _) rfl rfl rfl) rfl rfl rfl ?_ | refine tr_val (ov_load_blk H.get3 rfl (Try.isAgg2 _) rfl rfl rfl) rfl rfl rfl ?_ | refine tr_val (ov_load_blk H.get4 rfl (Try.isAgg2 _) rfl rfl rfl) rfl rfl rfl ?_ | refine tr_val (ov_load_blk H.get5 rfl (Try.isAgg2 _) rfl rfl rfl) rfl rfl rfl ?_
          refine tr_val (ov_assign rfl rfl) rfl rfl rfl ?_
          refine tr_nil (hK11 _ _ (TrC.keep [3, 23, 5, 12, 11, 10, 9, 8, 0] ?_))
          show TrC _ _ _ _ [(3, _), (23, _), (5, _), (12, _), (11, _), (10, _), (9, _), (8, _), (0, _)] _ _
          -- region 10: span.go:19
          refine tr_region ?_
          refine tr_val (ov_add rfl rfl rfl (w64 (by omega))) rfl rfl rfl ?_
          refine tr_val (ov_move rfl rfl) rfl rfl rfl ?_
          skip
          exact tr_nil (hK8 (⟨i + 1, (gt L i).2⟩) _ _ (⟨by omega, by omega, (good_next hi0 (by omega) (by first | assumption | simpa using s18) (by omega)).trans hg, H.drop0⟩) (by first | omega | (dsimp only; omega)) (Sub.cons rfl (Sub.cons rfl (Sub.cons rfl (Sub.cons rfl (Sub.cons rfl (Sub.cons rfl Sub.nil)))))))
    · skip
      refine tr_exit (hK6 _ _ (TrC.keep [12, 11, 3, 10, 9, 8, 0] ?_))
      show TrC _ _ _ _ [(12, _), (11, _), (3, _), (10, _), (9, _), (8, _), (0, _)] _ _
      refine tr_seq (fun K17 hK17 => ?_)
      -- region 11: span.go:25
      refine tr_region ?_
      refine tr_val (ov_assign rfl rfl) rfl rfl rfl ?_
      refine tr_nil (hK17 _ _ (TrC.keep [2, 12, 11, 3, 10, 9, 8, 0] ?_))
      show TrC _ _ _ _ [(2, _), (12, _), (11, _), (3, _), (10, _), (9, _), (8, _), (0, _)] _ _
      refine tr_ret (post_ret1 (.inr rfl) rfl rfl ?_)
      rw [rowV_good (by omega) (hg.symm.trans (good_end (by omega)))]; exact ⟨rfl, H⟩

/-! curfew/curfewref07.Row -/
set_option maxRecDepth 20000 in
theorem RowR_c (A : Option Addr) (c : Nat) (L : List Sp) (w : World) (hR : Rd w A 2 (L.map encSpan)) (hL : L.length ≤ 4294967296) : Does Try.prog 19 #[.slice A L.length c] w (fun v w' => v = .int .i64 (rowV L) ∧ SH w noBlocks [] w') := by
  refine does_enter1 Try.func19 rfl Try.ntmps19 rfl ?_
  have H := SH.start w noBlocks
  refine tr_seq (fun K1 hK1 => ?_)
  -- region 0: ref.go:17
  refine tr_region ?_
  refine tr_val (ov_assign rfl rfl) rfl rfl rfl ?_
  refine tr_nil (hK1 _ _ (TrC.keep [2, 0] ?_))
  show TrC _ _ _ _ [(2, _), (0, _)] _ _
  refine tr_seq (fun K2 hK2 => ?_)
  refine tr_seq (fun K3 hK3 => ?_)
  -- region 1: ref.go:18
  refine tr_region ?_
  refine tr_val (ov_move rfl rfl) rfl rfl rfl ?_
  refine tr_val (ov_len rfl rfl Try.underlying33 rfl) rfl rfl rfl ?_
  refine tr_val (ov_gtr rfl rfl rfl) rfl rfl rfl ?_
  refine tr_nil (hK3 _ _ (TrC.keep [6, 2, 0] ?_))
  show TrC _ _ _ _ [(6, _), (2, _), (0, _)] _ _
  first | refine tr_cond rfl (fun c6 => ?_) (fun c6 => ?_) | refine tr_condb rfl (fun c6 => ?_) (fun c6 => ?_)
  · skip
    refine tr_seq (fun K4 hK4 => ?_)
    -- region 2: ref.go:19
    refine tr_region ?_
    refine tr_val (ov_assign rfl rfl) rfl rfl rfl ?_
    refine tr_nil (hK4 _ _ (TrC.keep [2, 6, 0] ?_))
    show TrC _ _ _ _ [(2, _), (6, _), (0, _)] _ _
    refine tr_ret (post_ret1 (.inr rfl) rfl rfl ?_)
    rw [rowV_long (by omega)]; exact ⟨rfl, H⟩
  · skip
    refine tr_skip (hK2 _ _ (TrC.keep [6, 2, 0] ?_))
    show TrC _ _ _ _ [(6, _), (2, _), (0, _)] _ _
    refine tr_seq (fun K5 hK5 => ?_)
    refine tr_seq (fun K6 hK6 => ?_)
    -- region 3: ref.go:21
    refine tr_region ?_
    refine tr_val (ov_assign rfl rfl) rfl rfl rfl ?_
    refine tr_nil (hK6 _ _ (TrC.keep [3, 6, 2, 0] ?_))
    show TrC _ _ _ _ [(3, _), (6, _), (2, _), (0, _)] _ _
    refine tr_block ?_
    refine tr_loop_ (X := Int) [6, 0] (fun i => [(3, .int .i64 i)]) (fun i w' => 0 ≤ i ∧ i ≤ L.length ∧ good (prevE L i) (L.drop i.toNat) = good 0 L ∧ SH w noBlocks [] w') (fun i => (L.length - i).toNat) (0) (Sub.cons rfl (Sub.cons rfl (Sub.cons rfl Sub.nil))) (⟨by omega, by omega, rfl, H⟩) ?_
    rintro i w1 ⟨hi0, hi1, hg, H⟩ K7 hK7
    show TrC _ _ _ _ [(3, _), (6, _), (0, _)] _ _
    refine tr_seq (fun K8 hK8 => ?_)
    refine tr_seq (fun K9 hK9 => ?_)
    -- region 4: ref.go:21
    refine tr_region ?_
    refine tr_val (ov_move rfl rfl) rfl rfl rfl ?_
    refine tr_val (ov_move rfl rfl) rfl rfl rfl ?_
    refine tr_val (ov_len rfl rfl Try.underlying33 rfl) rfl rfl rfl ?_
    refine tr_val (ov_lss rfl rfl rfl) rfl rfl rfl ?_
    refine tr_nil (hK9 _ _ (TrC.keep [10, 3, 6, 0] ?_))
    show TrC _ _ _ _ [(10, _), (3, _), (6, _), (0, _)] _ _
    first | refine tr_cond rfl (fun c10 => ?_) (fun c10 => ?_) | refine tr_condb rfl (fun c10 => ?_) (fun c10 => ?_)
    · skip
      refine tr_skip (hK8 _ _ (TrC.keep [10, 3, 6, 0] ?_))
      show TrC _ _ _ _ [(10, _), (3, _), (6, _), (0, _)] _ _
      refine tr_seq (fun K10 hK10 => ?_)
      refine tr_block ?_
      refine tr_seq (fun K11 hK11 => ?_)
      -- region 6: ref.go:22
      have hpe : prevE L i = if 0 < i then (gt L (i - 1)).2 else 0 := rfl
      refine tr_quiet mixed (by kernel_rfl) H ?_
      refine tq_val (fun _ H => ov_move rfl rfl) rfl rfl rfl ?_
      refine tq_val (fun _ H => ov_move rfl rfl) rfl rfl rfl ?_
      refine tq_val (fun _ H => ov_indexAddrR (H.rd0 hR) rfl Try.underlying33 (Try.sizeOf40 _) rfl rfl (by omega) (by omega)) rfl rfl rfl ?_
      refine tq_val (fun _ H => ld_Span (H.rd0 hR) rfl (Try.isAgg40 _) (Try.sizeOf40 _) rfl (by omega) (by omega)) rfl rfl rfl ?_
      refine tq_call (fun _ H => (RightR_c (gt L i) _).mono (fun _ _ hq => ⟨hq.1, H.call0n hq.2⟩)) rfl rfl rfl Try.call42 rfl rfl rfl ?_
      first | refine tq_val (fun _ H => ov_not rfl rfl) rfl rfl rfl ?_ | refine tq_val (fun _ H => ov_notb rfl rfl) rfl rfl rfl ?_
      refine tq_val (fun _ H => ov_move rfl rfl) rfl rfl rfl ?_
      first | refine tq_split (t := 19) rfl (fun s19 => ?_) (fun s19 => ?_) | refine tq_splitb (t := 19) rfl (fun s19 => ?_) (fun s19 => ?_)
      · skip
        refine tq_pass rfl rfl rfl ?_
        refine tq_pass rfl rfl rfl ?_
        refine tq_pass rfl rfl rfl ?_
        refine tq_pass rfl rfl rfl ?_
        refine tq_pass rfl rfl rfl ?_
        refine tq_pass rfl rfl rfl ?_
        refine tq_pass rfl rfl rfl ?_
        refine tq_pass rfl rfl rfl ?_
        refine tq_pass rfl rfl rfl ?_
        refine tq_pass rfl rfl rfl ?_
        refine tq_pass rfl rfl rfl ?_
        refine tq_pass rfl rfl rfl ?_
        refine tq_pass rfl rfl rfl ?_
        refine tq_pass rfl rfl rfl ?_
        refine tq_pass rfl rfl rfl ?_
        refine tq_pass rfl rfl rfl ?_
        refine tq_val (fun _ H => ov_pick (vb := undef) rfl rfl rfl rfl) rfl rfl rfl ?_
        refine tq_nil ?_
        intro w2 H
        refine hK11 _ _ (TrC.keep [36, 10, 3, 6, 0] ?_)
        show TrC _ _ _ _ [(36, _), (10, _), (3, _), (6, _), (0, _)] _ _
        refine tr_cond_t rfl rfl ?_
        refine tr_seq (fun K12 hK12 => ?_)
        -- region 7: ref.go:23
        refine tr_region ?_
        refine tr_val (ov_assign rfl rfl) rfl rfl rfl ?_
        refine tr_nil (hK12 _ _ (TrC.keep [2, 36, 10, 3, 6, 0] ?_))
        show TrC _ _ _ _ [(2, _), (36, _), (10, _), (3, _), (6, _), (0, _)] _ _
        refine tr_ret (post_ret1 (.inr rfl) rfl rfl ?_)
        rw [rowV_bad (by omega) (hg.symm.trans (good_not hi0 (by omega) (.inl s19)))]; exact ⟨rfl, H⟩
      · skip
        refine tq_val (fun _ H => ov_move rfl rfl) rfl rfl rfl ?_
        refine tq_val (fun _ H => ov_gtr rfl rfl rfl) rfl rfl rfl ?_
        refine tq_val (fun _ H => ov_move rfl rfl) rfl rfl rfl ?_
        first | refine tq_split (t := 22) rfl (fun s22 => ?_) (fun s22 => ?_) | refine tq_splitb (t := 22) rfl (fun s22 => ?_) (fun s22 => ?_)
        · skip
          refine tq_val (fun _ H => ov_move rfl rfl) rfl rfl rfl ?_
          refine tq_val (fun _ H => ov_move rfl rfl) rfl rfl rfl ?_
          refine tq_val (fun _ H => ov_indexAddrR (H.rd0 hR) rfl Try.underlying33 (Try.sizeOf40 _) rfl rfl (by omega) (by omega)) rfl rfl rfl ?_
          refine tq_val (fun _ H => ov_fieldAddr rfl Try.underlying40 rfl (Try.sizeOf2 _) (by decide) rfl) rfl rfl rfl ?_
          refine tq_val (fun _ H => ld_Span_0 (H.rd0 hR) rfl (Try.isAgg2 _) rfl (by omega) (by omega)) rfl rfl rfl ?_
          refine tq_val (fun _ H => ov_move rfl rfl) rfl rfl rfl ?_
          refine tq_val (fun _ H => ov_move rfl rfl) rfl rfl rfl ?_
          refine tq_val (fun _ H => ov_sub rfl rfl rfl (w64 (by omega))) rfl rfl rfl ?_
          refine tq_val (fun _ H => ov_indexAddrR (H.rd0 hR) rfl Try.underlying33 (Try.sizeOf40 _) rfl rfl (by omega) (by omega)) rfl rfl rfl ?_
          refine tq_val (fun _ H => ov_fieldAddr rfl Try.underlying40 rfl (Try.sizeOf2 _) (by decide) rfl) rfl rfl rfl ?_
          refine tq_val (fun _ H => ld_Span_1 (H.rd0 hR) rfl (Try.isAgg2 _) rfl (by omega) (by omega)) rfl rfl rfl ?_
          refine tq_val (fun _ H => ov_lss rfl rfl rfl) rfl rfl rfl ?_
          refine tq_val (fun _ H => ov_pick (vb := undef) rfl rfl rfl rfl) rfl rfl rfl ?_
          refine tq_val (fun _ H => ov_pick_f (va := undef) rfl rfl rfl rfl) rfl rfl rfl ?_
          refine tq_nil ?_
          intro w3 H
          refine hK11 _ _ (TrC.keep [36, 10, 3, 6, 0] ?_)
          show TrC _ _ _ _ [(36, _), (10, _), (3, _), (6, _), (0, _)] _ _
          first | refine tr_cond rfl (fun c36 => ?_) (fun c36 => ?_) | refine tr_condb rfl (fun c36 => ?_) (fun c36 => ?_)
          · skip
            refine tr_seq (fun K13 hK13 => ?_)
            -- region 7: ref.go:23
            refine tr_region ?_
            refine tr_val (ov_assign rfl rfl) rfl rfl rfl ?_
            refine tr_nil (hK13 _ _ (TrC.keep [2, 36, 10, 3, 6, 0] ?_))
            show TrC _ _ _ _ [(2, _), (36, _), (10, _), (3, _), (6, _), (0, _)] _ _
            refine tr_ret (post_ret1 (.inr rfl) rfl rfl ?_)
            rw [rowV_bad (by omega) (hg.symm.trans (good_not hi0 (by omega) (.inr (by rw [hpe, if_pos s22]; omega))))]; exact ⟨rfl, H⟩
          · skip
            refine tr_skip (hK10 _ _ (TrC.keep [36, 10, 3, 6, 0] ?_))
            show TrC _ _ _ _ [(36, _), (10, _), (3, _), (6, _), (0, _)] _ _
            -- region 5: ref.go:21
            refine tr_region ?_
            refine tr_val (ov_move rfl rfl) rfl rfl rfl ?_
            refine tr_val (ov_add rfl rfl rfl (w64 (by omega))) rfl rfl rfl ?_
            refine tr_val (ov_assign rfl rfl) rfl rfl rfl ?_
            skip
            exact tr_nil (hK7 (i + 1) _ _ (⟨by omega, by omega, by rw [prevE_next hi0]; exact (good_next hi0 (by omega) (by simpa using s19) (by rw [hpe, if_pos s22]; omega)).trans hg, H⟩) (by first | omega | (dsimp only; omega)) (Sub.cons rfl (Sub.cons rfl (Sub.cons rfl Sub.nil))))
        · skip
          refine tq_pass rfl rfl rfl ?_
          refine tq_pass rfl rfl rfl ?_
          refine tq_pass rfl rfl rfl ?_
          refine tq_pass rfl rfl rfl ?_
          refine tq_pass rfl rfl rfl ?_
          refine tq_pass rfl rfl rfl ?_
          refine tq_pass rfl rfl rfl ?_
          refine tq_pass rfl rfl rfl ?_
          refine tq_pass rfl rfl rfl ?_
          refine tq_pass rfl rfl rfl ?_
          refine tq_pass rfl rfl rfl ?_
          refine tq_pass rfl rfl rfl ?_
          refine tq_val (fun _ H => ov_pick_f (va := undef) rfl rfl rfl rfl) rfl rfl rfl ?_
          refine tq_val (fun _ H => ov_pick_f (va := undef) rfl rfl rfl rfl) rfl rfl rfl ?_
          refine tq_nil ?_
          intro w4 H
          refine hK11 _ _ (TrC.keep [36, 10, 3, 6, 0] ?_)
          show TrC _ _ _ _ [(36, _), (10, _), (3, _), (6, _), (0, _)] _ _
          refine tr_cond_f rfl rfl ?_
          refine tr_skip (hK10 _ _ (TrC.keep [36, 10, 3, 6, 0] ?_))
          show TrC _ _ _ _ [(36, _), (10, _), (3, _), (6, _), (0, _)] _ _
          -- region 5: ref.go:21
          refine tr_region ?_
          refine tr_val (ov_move rfl rfl) rfl rfl rfl ?_
          refine tr_val (ov_add rfl rfl rfl (w64 (by omega))) rfl rfl rfl ?_
          refine tr_val (ov_assign rfl rfl) rfl rfl rfl ?_
          skip
          exact tr_nil (hK7 (i + 1) _ _ (⟨by omega, by omega, by rw [prevE_next hi0]; exact (good_next hi0 (by omega) (by simpa using s19) (by rw [hpe, if_neg s22]; exact (show RightP (gt L i) by simpa using s19).1)).trans hg, H⟩) (by first | omega | (dsimp only; omega)) (Sub.cons rfl (Sub.cons rfl (Sub.cons rfl Sub.nil))))
    · skip
      refine tr_exit (hK5 _ _ (TrC.keep [10, 3, 6, 0] ?_))
      show TrC _ _ _ _ [(10, _), (3, _), (6, _), (0, _)] _ _
      refine tr_seq (fun K14 hK14 => ?_)
      -- region 8: ref.go:26
      refine tr_region ?_
      refine tr_val (ov_assign rfl rfl) rfl rfl rfl ?_
      refine tr_nil (hK14 _ _ (TrC.keep [2, 10, 3, 6, 0] ?_))
      show TrC _ _ _ _ [(2, _), (10, _), (3, _), (6, _), (0, _)] _ _
      refine tr_ret (post_ret1 (.inr rfl) rfl rfl ?_)
      rw [rowV_good (by omega) (hg.symm.trans (good_end (by omega)))]; exact ⟨rfl, H⟩

/-! slices.IndexFunc[[]curfew/api.Span,curfew/api.Span] -/
set_option maxRecDepth 20000 in
theorem IndexFunc_c (A : Option Addr) (c : Nat) (L : List Sp) (w : World) (hR : Rd w A 2 (L.map encSpan)) (hL : L.length ≤ 4294967296) (gf : FuncId) (caps : List Value) (p : Sp → Bool) (hcf : ∀ ys w, (callFunc gf ys).run Try.prog w = .ok (.enter gf ys) w) (hf : ∀ s w1, SH w noBlocks [] w1 → Does Try.prog gf ([Value.agg #[.int .i64 s.1, .int .i64 s.2]] ++ caps).toArray w1 (fun v w2 => v = .bool (p s) ∧ SH w1 noBlocks [] w2)) : Does Try.prog 56 #[.slice A L.length c, .func (.func gf) #[] caps.toArray] w (fun v w' => v = .int .i64 (idxFrom p 0 L) ∧ SH w noBlocks [] w') := by
  refine does_enter2 Try.func56 rfl Try.ntmps56 rfl ?_
  have H := SH.start w noBlocks
  refine tr_seq (fun K1 hK1 => ?_)
  -- region 0: slices.go:107
  refine tr_region ?_
  refine tr_val (ov_assign rfl rfl) rfl rfl rfl ?_
  refine tr_nil (hK1 _ _ (TrC.keep [4, 0, 1] ?_))
  show TrC _ _ _ _ [(4, _), (0, _), (1, _)] _ _
  refine tr_seq (fun K2 hK2 => ?_)
  refine tr_seq (fun K3 hK3 => ?_)
  -- region 1: slices.go:108
  refine tr_region ?_
  refine tr_val (ov_move rfl rfl) rfl rfl rfl ?_
  refine tr_val (ov_len rfl rfl Try.underlying33 rfl) rfl rfl rfl ?_
  refine tr_val (ov_move rfl rfl) rfl rfl rfl ?_
  refine tr_nil (hK3 _ _ (TrC.keep [8, 7, 4, 0, 1] ?_))
  show TrC _ _ _ _ [(8, _), (7, _), (4, _), (0, _), (1, _)] _ _
  refine tr_block ?_
  refine tr_loop_ (X := Int) [7, 0, 1] (fun i => [(8, .int .i64 i)]) (fun i w' => 0 ≤ i ∧ i ≤ L.length ∧ idxFrom p i (L.drop i.toNat) = idxFrom p 0 L ∧ SH w noBlocks [] w') (fun i => (L.length - i).toNat) (0) (Sub.cons rfl (Sub.cons rfl (Sub.cons rfl (Sub.cons rfl Sub.nil)))) (⟨by omega, by omega, rfl, H⟩) ?_
  rintro i w1 ⟨hi0, hi1, hx, H⟩ K4 hK4
  show TrC _ _ _ _ [(8, _), (7, _), (0, _), (1, _)] _ _
  refine tr_seq (fun K5 hK5 => ?_)
  -- region 2: slices.go:108
  refine tr_region ?_
  refine tr_val (ov_lss rfl rfl rfl) rfl rfl rfl ?_
  refine tr_nil (hK5 _ _ (TrC.keep [9, 8, 7, 0, 1] ?_))
  show TrC _ _ _ _ [(9, _), (8, _), (7, _), (0, _), (1, _)] _ _
  refine tr_seq (fun K6 hK6 => ?_)
  first | refine tr_cond rfl (fun c9 => ?_) (fun c9 => ?_) | refine tr_condb rfl (fun c9 => ?_) (fun c9 => ?_)
  · skip
    refine tr_skip (hK6 _ _ (TrC.keep [9, 8, 7, 0, 1] ?_))
    show TrC _ _ _ _ [(9, _), (8, _), (7, _), (0, _), (1, _)] _ _
    refine tr_seq (fun K7 hK7 => ?_)
    refine tr_block ?_
    refine tr_seq (fun K8 hK8 => ?_)
    -- region 3: slices.go:108
    refine tr_region ?_
    refine tr_val (ov_move rfl rfl) rfl rfl rfl ?_
    refine tr_val (ov_assign rfl rfl) rfl rfl rfl ?_
    refine tr_nil (hK8 _ _ (TrC.keep [5, 9, 8, 7, 0, 1] ?_))
    show TrC _ _ _ _ [(5, _), (9, _), (8, _), (7, _), (0, _), (1, _)] _ _
    refine tr_seq (fun K9 hK9 => ?_)
    -- region 4: slices.go:109
    refine tr_region ?_
    refine tr_val (ov_move rfl rfl) rfl rfl rfl ?_
    refine tr_val (ov_move rfl rfl) rfl rfl rfl ?_
    refine tr_val (ov_move rfl rfl) rfl rfl rfl ?_
    refine tr_val (ov_indexAddrR (H.rd0 hR) rfl Try.underlying33 (Try.sizeOf40 _) rfl rfl (by omega) (by omega)) rfl rfl rfl ?_
    refine tr_val (ld_Span (H.rd0 hR) rfl (Try.isAgg40 _) (Try.sizeOf40 _) rfl (by omega) (by omega)) rfl rfl rfl ?_
    refine tr_callc (hf (gt L i) _ H) rfl rfl rfl hcf rfl rfl rfl ?_
    rintro _ w2 ⟨rfl, HC⟩
    have H := H.call0n HC
    refine tr_nil (hK9 _ _ (TrC.keep [16, 5, 9, 8, 7, 0, 1] ?_))
    show TrC _ _ _ _ [(16, _), (5, _), (9, _), (8, _), (7, _), (0, _), (1, _)] _ _
    first | refine tr_cond rfl (fun c16 => ?_) (fun c16 => ?_) | refine tr_condb rfl (fun c16 => ?_) (fun c16 => ?_)
    · skip
      refine tr_seq (fun K10 hK10 => ?_)
      -- region 5: slices.go:110
      refine tr_region ?_
      refine tr_val (ov_move rfl rfl) rfl rfl rfl ?_
      refine tr_val (ov_assign rfl rfl) rfl rfl rfl ?_
      refine tr_nil (hK10 _ _ (TrC.keep [4, 16, 5, 9, 8, 7, 0, 1] ?_))
      show TrC _ _ _ _ [(4, _), (16, _), (5, _), (9, _), (8, _), (7, _), (0, _), (1, _)] _ _
      refine tr_ret (post_ret1 (.inr rfl) rfl rfl ?_)
      rw [← hx, idx_hit hi0 (by omega) c16]; exact ⟨rfl, H⟩
    · skip
      refine tr_skip (hK7 _ _ (TrC.keep [16, 5, 9, 8, 7, 0, 1] ?_))
      show TrC _ _ _ _ [(16, _), (5, _), (9, _), (8, _), (7, _), (0, _), (1, _)] _ _
      -- region 6: slices.go:108
      refine tr_region ?_
      refine tr_val (ov_add rfl rfl rfl (w64 (by omega))) rfl rfl rfl ?_
      refine tr_val (ov_move rfl rfl) rfl rfl rfl ?_
      skip
      exact tr_nil (hK4 (i + 1) _ _ (⟨by omega, by omega, (idx_step hi0 (by omega) c16).symm.trans hx, H⟩) (by first | omega | (dsimp only; omega)) (Sub.cons rfl (Sub.cons rfl (Sub.cons rfl (Sub.cons rfl Sub.nil)))))
  · skip
    refine tr_exit (hK2 _ _ (TrC.keep [9, 8, 7, 0, 1] ?_))
    show TrC _ _ _ _ [(9, _), (8, _), (7, _), (0, _), (1, _)] _ _
    refine tr_seq (fun K11 hK11 => ?_)
    -- region 7: slices.go:113
    refine tr_region ?_
    refine tr_val (ov_assign rfl rfl) rfl rfl rfl ?_
    refine tr_nil (hK11 _ _ (TrC.keep [4, 9, 8, 7, 0, 1] ?_))
    show TrC _ _ _ _ [(4, _), (9, _), (8, _), (7, _), (0, _), (1, _)] _ _
    refine tr_ret (post_ret1 (.inr rfl) rfl rfl ?_)
    rw [← hx, idx_end (by omega)]; exact ⟨rfl, H⟩

/-! slices.ContainsFunc[[]curfew/api.Span,curfew/api.Span] -/
set_option maxRecDepth 20000 in
theorem ContainsFunc_c (A : Option Addr) (c : Nat) (L : List Sp) (w : World) (hR : Rd w A 2 (L.map encSpan)) (hL : L.length ≤ 4294967296) (gf : FuncId) (caps : List Value) (p : Sp → Bool) (hcf : ∀ ys w, (callFunc gf ys).run Try.prog w = .ok (.enter gf ys) w) (hf : ∀ s w1, SH w noBlocks [] w1 → Does Try.prog gf ([Value.agg #[.int .i64 s.1, .int .i64 s.2]] ++ caps).toArray w1 (fun v w2 => v = .bool (p s) ∧ SH w1 noBlocks [] w2)) : Does Try.prog 61 #[.slice A L.length c, .func (.func gf) #[] caps.toArray] w (fun v w' => v = .bool (L.any p) ∧ SH w noBlocks [] w') := by
  refine does_enter2 Try.func61 rfl Try.ntmps61 rfl ?_
  have H := SH.start w noBlocks
  refine tr_seq (fun K1 hK1 => ?_)
  -- region 0: slices.go:124
  refine tr_region ?_
  refine tr_val (ov_assign rfl rfl) rfl rfl rfl ?_
  refine tr_nil (hK1 _ _ (TrC.keep [4, 0, 1] ?_))
  show TrC _ _ _ _ [(4, _), (0, _), (1, _)] _ _
  refine tr_seq (fun K2 hK2 => ?_)
  -- region 1: slices.go:125
  refine tr_region ?_
  refine tr_val (ov_move rfl rfl) rfl rfl rfl ?_
  refine tr_val (ov_move rfl rfl) rfl rfl rfl ?_
  refine tr_call (IndexFunc_c A c L _ (H.rd0 hR) hL gf caps p hcf (fun s w1 h => hf s w1 (H.call0n h))) rfl rfl rfl Try.call56 rfl rfl rfl ?_
  rintro _ w1 ⟨rfl, HC⟩
  have H := H.call0n HC
  refine tr_val (ov_geq rfl rfl rfl) rfl rfl rfl ?_
  refine tr_val (ov_assign rfl rfl) rfl rfl rfl ?_
  refine tr_nil (hK2 _ _ (TrC.keep [4] ?_))
  show TrC _ _ _ _ [(4, _)] _ _
  refine tr_ret (post_ret1 (.inr rfl) rfl rfl ?_)
  exact ⟨congrArg Value.bool (idx_any L 0 (by omega)), H⟩

/-! curfew/span.Has$1 -/
set_option maxRecDepth 20000 in
theorem Has1_c (s : Sp) (b : Nat) (x : Int) (w : World) (hb : (blk b 2 [.int .i64 x]).holds w) : Does Try.prog 65 #[.agg #[.int .i64 s.1, .int .i64 s.2], .pointer (some ⟨b, 0, none⟩)] w (fun v w' => v = .bool (hasIn x s) ∧ SH w noBlocks [] w') := by
  refine does_enter2 Try.func65 rfl Try.ntmps65 rfl ?_
  have H := SH.start w noBlocks
  refine tr_seq (fun K1 hK1 => ?_)
  -- region 0: span.go:78
  refine tr_region ?_
  refine tr_box H rfl rfl rfl rfl rfl rfl ?_
  intro b1 w1 hb1 H
  refine tr_val (ov_assign rfl rfl) rfl rfl rfl ?_
  refine tr_nil (hK1 _ _ (TrC.keep [3, 2, 1] ?_))
  show TrC _ _ _ _ [(3, _), (2, _), (1, _)] _ _
  refine tr_seq (fun K2 hK2 => ?_)
  -- region 1: span.go:78
  refine tr_cut [] [(3, .bool (hasIn x s))] (fun w' => SH w noBlocks [] w') (fun K3 hK3 => ?_) (fun w2 H => ?_)
  · skip
    refine tr_val (ov_load_blk (H.blk0 hb) rfl (Try.isAgg2 _) rfl rfl rfl) rfl rfl rfl ?_
    refine tr_val (ov_fieldAddr rfl Try.underlying40 rfl (Try.sizeOf2 _) (by decide) rfl) rfl rfl rfl ?_
    first | refine tr_val (ov_load_blk H.get0 rfl (Try.isAgg2 _) rfl rfl rfl) rfl rfl rfl ?_ | refine tr_val (ov_load_blk H.get1 rfl (Try.isAgg2 _) rfl rfl rfl) rfl rfl rfl ?_ | refine tr_val (ov_load_blk H.get2 rfl (Try.isAgg2 _) rfl rfl rfl) rfl rfl rfl ?_ | refine tr_val (ov_load_blk H.get3 rfl (Try.isAgg2 _) rfl rfl rfl) rfl rfl rfl ?_ | refine tr_val (ov_load_blk H.get4 rfl (Try.isAgg2 _) rfl rfl rfl) rfl rfl rfl ?_ | refine tr_val (ov_load_blk H.get5 rfl (Try.isAgg2 _) rfl rfl rfl) rfl rfl rfl ?_
    refine tr_val (ov_geq rfl rfl rfl) rfl rfl rfl ?_
    refine tr_val (ov_move rfl rfl) rfl rfl rfl ?_
    first | refine tr_split (t := 8) rfl (fun s8 => ?_) (fun s8 => ?_) | refine tr_splitb (t := 8) rfl (fun s8 => ?_) (fun s8 => ?_)
    · skip
      refine tr_val (ov_load_blk (H.blk0 hb) rfl (Try.isAgg2 _) rfl rfl rfl) rfl rfl rfl ?_
      refine tr_val (ov_fieldAddr rfl Try.underlying40 rfl (Try.sizeOf2 _) (by decide) rfl) rfl rfl rfl ?_
      first | refine tr_val (ov_load_blk H.get0 rfl (Try.isAgg2 _) rfl rfl rfl) rfl rfl rfl ?_ | refine tr_val (ov_load_blk H.get1 rfl (Try.isAgg2 _) rfl rfl rfl) rfl rfl rfl ?_ | refine tr_val (ov_load_blk H.get2 rfl (Try.isAgg2 _) rfl rfl rfl) rfl rfl rfl ?_ | refine tr_val (ov_load_blk H.get3 rfl (Try.isAgg2 _) rfl rfl rfl) rfl rfl rfl ?_ | refine tr_val (ov_load_blk H.get4 rfl (Try.isAgg2 _) rfl rfl rfl) rfl rfl rfl ?_ | refine tr_val (ov_load_blk H.get5 rfl (Try.isAgg2 _) rfl rfl rfl) rfl rfl rfl ?_
      refine tr_val (ov_lss rfl rfl rfl) rfl rfl rfl ?_
      refine tr_val (ov_pick (vb := undef) rfl rfl rfl rfl) rfl rfl rfl ?_
      refine tr_val (ov_assign rfl rfl) rfl rfl rfl ?_
      exact tr_nil (hK3 _ _ (Sub.consE rfl (congrArg Value.bool (by show _ = decide (s.1 ≤ x ∧ x < s.2); first | exact eqT (by omega) | exact eqF (by omega) | exact eqI (by omega))) Sub.nil) (H.drop0))
    · skip
      refine tr_pass rfl rfl rfl ?_
      refine tr_pass rfl rfl rfl ?_
      refine tr_pass rfl rfl rfl ?_
      refine tr_pass rfl rfl rfl ?_
      refine tr_val (ov_pick_f (va := undef) rfl rfl rfl rfl) rfl rfl rfl ?_
      refine tr_val (ov_assign rfl rfl) rfl rfl rfl ?_
      exact tr_nil (hK3 _ _ (Sub.consE rfl (congrArg Value.bool (by show _ = decide (s.1 ≤ x ∧ x < s.2); first | exact eqT (by omega) | exact eqF (by omega) | exact eqI (by omega))) Sub.nil) (H.drop0))
  · skip
    refine hK2 _ _ (TrC.keep [3] ?_)
    show TrC _ _ _ _ [(3, _)] _ _
    refine tr_ret (post_ret1 (.inr rfl) rfl rfl ?_)
    exact ⟨rfl, H⟩

/-! curfew/span.Has -/
set_option maxRecDepth 20000 in
theorem Has_c (A : Option Addr) (c : Nat) (L : List Sp) (w : World) (hR : Rd w A 2 (L.map encSpan)) (hL : L.length ≤ 4294967296) (x : Int) : Does Try.prog 37 #[.slice A L.length c, .int .i64 x] w (fun v w' => v = .bool (hasV L x) ∧ SH w noBlocks [] w') := by
  refine does_enter2 Try.func37 rfl Try.ntmps37 rfl ?_
  have H := SH.start w noBlocks
  refine tr_seq (fun K1 hK1 => ?_)
  -- region 0: span.go:77
  refine tr_region ?_
  refine tr_box H rfl rfl rfl rfl rfl rfl ?_
  intro b1 w1 hb1 H
  refine tr_val (ov_assign rfl rfl) rfl rfl rfl ?_
  refine tr_nil (hK1 _ _ (TrC.keep [4, 3, 0] ?_))
  show TrC _ _ _ _ [(4, _), (3, _), (0, _)] _ _
  refine tr_seq (fun K2 hK2 => ?_)
  -- region 1: span.go:78
  refine tr_region ?_
  refine tr_val (ov_move rfl rfl) rfl rfl rfl ?_
  refine tr_call (Row_c A c L _ (H.rd0 hR) hL) rfl rfl rfl Try.call38 rfl rfl rfl ?_
  rintro _ w2 ⟨rfl, HC⟩
  have H := H.call0n HC
  refine tr_val (ov_eql rfl rfl rfl) rfl rfl rfl ?_
  refine tr_val (ov_move rfl rfl) rfl rfl rfl ?_
  first | refine tr_split (t := 8) rfl (fun s8 => ?_) (fun s8 => ?_) | refine tr_splitb (t := 8) rfl (fun s8 => ?_) (fun s8 => ?_)
  · skip
    refine tr_val (ov_move rfl rfl) rfl rfl rfl ?_
    refine tr_val (ov_makeFunc1 rfl rfl) rfl rfl rfl ?_
    refine tr_call (ContainsFunc_c A c L _ (H.rd0 hR) hL 65 [.pointer (some ⟨b1, 0, none⟩)] (hasIn x) Try.call65 (fun s w' h => Has1_c s b1 x w' (h.blk0 H.get0))) rfl rfl rfl Try.call61 rfl rfl rfl ?_
    rintro _ w3 ⟨rfl, HC⟩
    have H := H.call0n HC
    refine tr_val (ov_pick (vb := undef) rfl rfl rfl rfl) rfl rfl rfl ?_
    refine tr_val (ov_assign rfl rfl) rfl rfl rfl ?_
    refine tr_nil (hK2 _ _ (TrC.keep [4] ?_))
    show TrC _ _ _ _ [(4, _)] _ _
    refine tr_ret (post_ret1 (.inr rfl) rfl rfl ?_)
    refine ⟨congrArg Value.bool ?_, H.drop0⟩
    unfold hasV; rw [decide_eq_true s8]; rfl
  · skip
    refine tr_pass rfl rfl rfl ?_
    refine tr_pass rfl rfl rfl ?_
    refine tr_pass rfl rfl rfl ?_
    refine tr_val (ov_pick_f (va := undef) rfl rfl rfl rfl) rfl rfl rfl ?_
    refine tr_val (ov_assign rfl rfl) rfl rfl rfl ?_
    refine tr_nil (hK2 _ _ (TrC.keep [4] ?_))
    show TrC _ _ _ _ [(4, _)] _ _
    refine tr_ret (post_ret1 (.inr rfl) rfl rfl ?_)
    refine ⟨congrArg Value.bool ?_, H.drop0⟩
    unfold hasV; rw [decide_eq_false s8]; rfl

/-! curfew/curfewref07.Has -/
set_option maxRecDepth 20000 in
theorem HasR_c (A : Option Addr) (c : Nat) (L : List Sp) (w : World) (hR : Rd w A 2 (L.map encSpan)) (hL : L.length ≤ 4294967296) (x : Int) : Does Try.prog 23 #[.slice A L.length c, .int .i64 x] w (fun v w' => v = .bool (hasV L x) ∧ SH w noBlocks [] w') := by
  refine does_enter2 Try.func23 rfl Try.ntmps23 rfl ?_
  have H := SH.start w noBlocks
  refine tr_seq (fun K1 hK1 => ?_)
  -- region 0: ref.go:93
  refine tr_region ?_
  refine tr_val (ov_assign rfl rfl) rfl rfl rfl ?_
  refine tr_nil (hK1 _ _ (TrC.keep [4, 0, 1] ?_))
  show TrC _ _ _ _ [(4, _), (0, _), (1, _)] _ _
  refine tr_seq (fun K2 hK2 => ?_)
  refine tr_seq (fun K3 hK3 => ?_)
  -- region 1: ref.go:94
  refine tr_region ?_
  refine tr_val (ov_move rfl rfl) rfl rfl rfl ?_
  refine tr_call (RowR_c A c L _ (H.rd0 hR) hL) rfl rfl rfl Try.call19 rfl rfl rfl ?_
  rintro _ w1 ⟨rfl, HC⟩
  have H := H.call0n HC
  refine tr_val (ov_neq rfl rfl rfl) rfl rfl rfl ?_
  refine tr_nil (hK3 _ _ (TrC.keep [8, 4, 0, 1] ?_))
  show TrC _ _ _ _ [(8, _), (4, _), (0, _), (1, _)] _ _
  first | refine tr_cond rfl (fun c8 => ?_) (fun c8 => ?_) | refine tr_condb rfl (fun c8 => ?_) (fun c8 => ?_)
  · skip
    refine tr_seq (fun K4 hK4 => ?_)
    -- region 2: ref.go:95
    refine tr_region ?_
    refine tr_val (ov_assign rfl rfl) rfl rfl rfl ?_
    refine tr_nil (hK4 _ _ (TrC.keep [4, 8, 0, 1] ?_))
    show TrC _ _ _ _ [(4, _), (8, _), (0, _), (1, _)] _ _
    refine tr_ret (post_ret1 (.inr rfl) rfl rfl ?_)
    refine ⟨congrArg Value.bool ?_, H⟩
    unfold hasV; rw [decide_eq_false c8]; rfl
  · skip
    refine tr_skip (hK2 _ _ (TrC.keep [8, 4, 0, 1] ?_))
    show TrC _ _ _ _ [(8, _), (4, _), (0, _), (1, _)] _ _
    refine tr_seq (fun K5 hK5 => ?_)
    refine tr_seq (fun K6 hK6 => ?_)
    -- region 3: ref.go:97
    refine tr_region ?_
    refine tr_val (ov_assign rfl rfl) rfl rfl rfl ?_
    refine tr_nil (hK6 _ _ (TrC.keep [5, 8, 4, 0, 1] ?_))
    show TrC _ _ _ _ [(5, _), (8, _), (4, _), (0, _), (1, _)] _ _
    refine tr_block ?_
    refine tr_loop_ (X := Int) [8, 0, 1] (fun i => [(5, .int .i64 i)]) (fun i w' => 0 ≤ i ∧ i ≤ L.length ∧ (L.drop i.toNat).any (hasIn x) = L.any (hasIn x) ∧ SH w noBlocks [] w') (fun i => (L.length - i).toNat) (0) (Sub.cons rfl (Sub.cons rfl (Sub.cons rfl (Sub.cons rfl Sub.nil)))) (⟨by omega, by omega, rfl, H⟩) ?_
    rintro i w2 ⟨hi0, hi1, hx, H⟩ K7 hK7
    show TrC _ _ _ _ [(5, _), (8, _), (0, _), (1, _)] _ _
    refine tr_seq (fun K8 hK8 => ?_)
    refine tr_seq (fun K9 hK9 => ?_)
    -- region 4: ref.go:97
    refine tr_region ?_
    refine tr_val (ov_move rfl rfl) rfl rfl rfl ?_
    refine tr_val (ov_move rfl rfl) rfl rfl rfl ?_
    refine tr_val (ov_len rfl rfl Try.underlying33 rfl) rfl rfl rfl ?_
    refine tr_val (ov_lss rfl rfl rfl) rfl rfl rfl ?_
    refine tr_nil (hK9 _ _ (TrC.keep [12, 5, 8, 0, 1] ?_))
    show TrC _ _ _ _ [(12, _), (5, _), (8, _), (0, _), (1, _)] _ _
    first | refine tr_cond rfl (fun c12 => ?_) (fun c12 => ?_) | refine tr_condb rfl (fun c12 => ?_) (fun c12 => ?_)
    · skip
      refine tr_skip (hK8 _ _ (TrC.keep [12, 5, 8, 0, 1] ?_))
      show TrC _ _ _ _ [(12, _), (5, _), (8, _), (0, _), (1, _)] _ _
      refine tr_seq (fun K10 hK10 => ?_)
      refine tr_block ?_
      refine tr_seq (fun K11 hK11 => ?_)
      -- region 6: ref.go:98
      refine tr_region ?_
      refine tr_val (ov_move rfl rfl) rfl rfl rfl ?_
      refine tr_val (ov_move rfl rfl) rfl rfl rfl ?_
      refine tr_val (ov_move rfl rfl) rfl rfl rfl ?_
      refine tr_val (ov_indexAddrR (H.rd0 hR) rfl Try.underlying33 (Try.sizeOf40 _) rfl rfl (by omega) (by omega)) rfl rfl rfl ?_
      refine tr_val (ov_fieldAddr rfl Try.underlying40 rfl (Try.sizeOf2 _) (by decide) rfl) rfl rfl rfl ?_
      refine tr_val (ld_Span_0 (H.rd0 hR) rfl (Try.isAgg2 _) rfl (by omega) (by omega)) rfl rfl rfl ?_
      refine tr_val (ov_geq rfl rfl rfl) rfl rfl rfl ?_
      refine tr_val (ov_move rfl rfl) rfl rfl rfl ?_
      first | refine tr_split (t := 22) rfl (fun s22 => ?_) (fun s22 => ?_) | refine tr_splitb (t := 22) rfl (fun s22 => ?_) (fun s22 => ?_)
      · skip
        refine tr_val (ov_move rfl rfl) rfl rfl rfl ?_
        refine tr_val (ov_move rfl rfl) rfl rfl rfl ?_
        refine tr_val (ov_move rfl rfl) rfl rfl rfl ?_
        refine tr_val (ov_indexAddrR (H.rd0 hR) rfl Try.underlying33 (Try.sizeOf40 _) rfl rfl (by omega) (by omega)) rfl rfl rfl ?_
        refine tr_val (ov_fieldAddr rfl Try.underlying40 rfl (Try.sizeOf2 _) (by decide) rfl) rfl rfl rfl ?_
        refine tr_val (ld_Span_1 (H.rd0 hR) rfl (Try.isAgg2 _) rfl (by omega) (by omega)) rfl rfl rfl ?_
        refine tr_val (ov_lss rfl rfl rfl) rfl rfl rfl ?_
        refine tr_val (ov_pick (vb := undef) rfl rfl rfl rfl) rfl rfl rfl ?_
        refine tr_nil (hK11 _ _ (TrC.keep [30, 12, 5, 8, 0, 1] ?_))
        show TrC _ _ _ _ [(30, _), (12, _), (5, _), (8, _), (0, _), (1, _)] _ _
        first | refine tr_cond rfl (fun c30 => ?_) (fun c30 => ?_) | refine tr_condb rfl (fun c30 => ?_) (fun c30 => ?_)
        · skip
          refine tr_seq (fun K12 hK12 => ?_)
          -- region 7: ref.go:99
          refine tr_region ?_
          refine tr_val (ov_assign rfl rfl) rfl rfl rfl ?_
          refine tr_nil (hK12 _ _ (TrC.keep [4, 30, 12, 5, 8, 0, 1] ?_))
          show TrC _ _ _ _ [(4, _), (30, _), (12, _), (5, _), (8, _), (0, _), (1, _)] _ _
          refine tr_ret (post_ret1 (.inr rfl) rfl rfl ?_)
          refine ⟨congrArg Value.bool ?_, H⟩
          unfold hasV; rw [decide_eq_true (show rowV L = 0 by omega), ← hx, any_step hi0 (by omega), show hasIn x (gt L i) = true from decide_eq_true (by omega)]; rfl
        · skip
          refine tr_skip (hK10 _ _ (TrC.keep [30, 12, 5, 8, 0, 1] ?_))
          show TrC _ _ _ _ [(30, _), (12, _), (5, _), (8, _), (0, _), (1, _)] _ _
          -- region 5: ref.go:97
          refine tr_region ?_
          refine tr_val (ov_move rfl rfl) rfl rfl rfl ?_
          refine tr_val (ov_add rfl rfl rfl (w64 (by omega))) rfl rfl rfl ?_
          refine tr_val (ov_assign rfl rfl) rfl rfl rfl ?_
          skip
          exact tr_nil (hK7 (i + 1) _ _ (⟨by omega, by omega, by rw [← hx, any_step hi0 (by omega), show hasIn x (gt L i) = false from decide_eq_false (by omega)]; rfl, H⟩) (by first | omega | (dsimp only; omega)) (Sub.cons rfl (Sub.cons rfl (Sub.cons rfl (Sub.cons rfl Sub.nil)))))
      · skip
        refine tr_pass rfl rfl rfl ?_
        refine tr_pass rfl rfl rfl ?_
        refine tr_pass rfl rfl rfl ?_
        refine tr_pass rfl rfl rfl ?_
        refine tr_pass rfl rfl rfl ?_
        refine tr_pass rfl rfl rfl ?_
        refine tr_pass rfl rfl rfl ?_
        refine tr_val (ov_pick_f (va := undef) rfl rfl rfl rfl) rfl rfl rfl ?_
        refine tr_nil (hK11 _ _ (TrC.keep [30, 12, 5, 8, 0, 1] ?_))
        show TrC _ _ _ _ [(30, _), (12, _), (5, _), (8, _), (0, _), (1, _)] _ _
        refine tr_cond_f rfl rfl ?_
        refine tr_skip (hK10 _ _ (TrC.keep [30, 12, 5, 8, 0, 1] ?_))
        show TrC _ _ _ _ [(30, _), (12, _), (5, _), (8, _), (0, _), (1, _)] _ _
        -- region 5: ref.go:97
        refine tr_region ?_
        refine tr_val (ov_move rfl rfl) rfl rfl rfl ?_
        refine tr_val (ov_add rfl rfl rfl (w64 (by omega))) rfl rfl rfl ?_
        refine tr_val (ov_assign rfl rfl) rfl rfl rfl ?_
        skip
        exact tr_nil (hK7 (i + 1) _ _ (⟨by omega, by omega, by rw [← hx, any_step hi0 (by omega), show hasIn x (gt L i) = false from decide_eq_false (by omega)]; rfl, H⟩) (by first | omega | (dsimp only; omega)) (Sub.cons rfl (Sub.cons rfl (Sub.cons rfl (Sub.cons rfl Sub.nil)))))
    · skip
      refine tr_exit (hK5 _ _ (TrC.keep [12, 5, 8, 0, 1] ?_))
      show TrC _ _ _ _ [(12, _), (5, _), (8, _), (0, _), (1, _)] _ _
      refine tr_seq (fun K13 hK13 => ?_)
      -- region 8: ref.go:102
      refine tr_region ?_
      refine tr_val (ov_assign rfl rfl) rfl rfl rfl ?_
      refine tr_nil (hK13 _ _ (TrC.keep [4, 12, 5, 8, 0, 1] ?_))
      show TrC _ _ _ _ [(4, _), (12, _), (5, _), (8, _), (0, _), (1, _)] _ _
      refine tr_ret (post_ret1 (.inr rfl) rfl rfl ?_)
      refine ⟨congrArg Value.bool ?_, H⟩
      unfold hasV; rw [← hx, any_end (by omega)]; simp

/-! curfew/span.Cut -/
set_option maxRecDepth 20000 in
theorem Cut_c (A : Option Addr) (c : Nat) (L : List Sp) (w : World) (hR : Rd w A 2 (L.map encSpan)) (hL : L.length ≤ 4294967296) (a b : Int) : Does Try.prog 59 #[.slice A L.length c, .int .i64 a, .int .i64 b] w (fun v w' => ∃ A' c', v = .slice A' (cutV L a b).length c' ∧ SH w noBlocks [vec A' c' 40 2 encSpan (cutV L a b)] w') := by
  refine does_enter3 Try.func59 rfl Try.ntmps59 rfl ?_
  have H := SH.start w noBlocks
  refine tr_seq (fun K1 hK1 => ?_)
  -- region 0: span.go:53
  have H := H.addNil 40 2 encSpan
  refine tr_region ?_
  refine tr_val (ov_assign rfl rfl) rfl rfl rfl ?_
  refine tr_nil (hK1 _ _ (TrC.keep [6, 0, 1, 2] ?_))
  show TrC _ _ _ _ [(6, _), (0, _), (1, _), (2, _)] _ _
  refine tr_seq (fun K2 hK2 => ?_)
  refine tr_seq (fun K3 hK3 => ?_)
  -- region 1: span.go:54
  refine tr_region ?_
  refine tr_val (ov_move rfl rfl) rfl rfl rfl ?_
  refine tr_call (Row_c A c L _ (H.rd0 hR) hL) rfl rfl rfl Try.call38 rfl rfl rfl ?_
  rintro _ w1 ⟨rfl, HC⟩
  have H := H.call0n HC
  refine tr_val (ov_neq rfl rfl rfl) rfl rfl rfl ?_
  refine tr_nil (hK3 _ _ (TrC.keep [12, 6, 0, 1, 2] ?_))
  show TrC _ _ _ _ [(12, _), (6, _), (0, _), (1, _), (2, _)] _ _
  first | refine tr_cond rfl (fun c12 => ?_) (fun c12 => ?_) | refine tr_condb rfl (fun c12 => ?_) (fun c12 => ?_)
  · skip
    refine tr_seq (fun K4 hK4 => ?_)
    -- region 2: span.go:55
    refine tr_region ?_
    refine tr_val (ov_assign rfl rfl) rfl rfl rfl ?_
    refine tr_nil (hK4 _ _ (TrC.keep [6, 12, 0, 1, 2] ?_))
    show TrC _ _ _ _ [(6, _), (12, _), (0, _), (1, _), (2, _)] _ _
    refine tr_ret (post_ret1 (.inr rfl) rfl rfl ?_)
    rw [show cutV L a b = [] by unfold cutV; rw [if_neg (by omega)]]; exact ⟨none, 0, rfl, H⟩
  · skip
    refine tr_skip (hK2 _ _ (TrC.keep [12, 6, 0, 1, 2] ?_))
    show TrC _ _ _ _ [(12, _), (6, _), (0, _), (1, _), (2, _)] _ _
    refine tr_seq (fun K5 hK5 => ?_)
    refine tr_seq (fun K6 hK6 => ?_)
    -- region 3: span.go:57
    have hl32 := (rowV_zero (L := L) (by omega)).1
    refine tr_region ?_
    refine tr_val (ov_move rfl rfl) rfl rfl rfl ?_
    refine tr_val (ov_len rfl rfl Try.underlying33 rfl) rfl rfl rfl ?_
    refine tr_val (ov_move rfl rfl) rfl rfl rfl ?_
    refine tr_nil (hK6 _ _ (TrC.keep [15, 14, 13, 12, 6, 0, 1, 2] ?_))
    show TrC _ _ _ _ [(15, _), (14, _), (13, _), (12, _), (6, _), (0, _), (1, _), (2, _)] _ _
    refine tr_block ?_
    refine tr_loop_ (X := Int × List Sp × Option Addr × Nat) [14, 13, 12, 0, 1, 2] (fun ⟨i, R, A1, c1⟩ => [(15, .int .i64 i), (6, .slice A1 R.length c1)]) (fun ⟨i, R, A1, c1⟩ w' => 0 ≤ i ∧ i ≤ L.length ∧ R.length ≤ i.toNat ∧ R ++ cutL (L.drop i.toNat) a b = cutL L a b ∧ SH w noBlocks [vec A1 c1 40 2 encSpan R] w') (fun ⟨i, R, A1, c1⟩ => (L.length - i).toNat) (⟨0, [], none, 0⟩) (Sub.cons rfl (Sub.cons rfl (Sub.cons rfl (Sub.cons rfl (Sub.cons rfl (Sub.cons rfl (Sub.cons rfl (Sub.cons rfl Sub.nil)))))))) (⟨by omega, by omega, by simp, rfl, H⟩) ?_
    rintro ⟨i, R, A1, c1⟩ w2 ⟨hi0, hi1, hRl, hx, H⟩ K7 hK7
    show TrC _ _ _ _ [(15, _), (6, _), (14, _), (13, _), (12, _), (0, _), (1, _), (2, _)] _ _
    refine tr_seq (fun K8 hK8 => ?_)
    -- region 4: span.go:57
    refine tr_region ?_
    refine tr_val (ov_lss rfl rfl rfl) rfl rfl rfl ?_
    refine tr_nil (hK8 _ _ (TrC.keep [16, 15, 6, 14, 13, 12, 0, 1, 2] ?_))
    show TrC _ _ _ _ [(16, _), (15, _), (6, _), (14, _), (13, _), (12, _), (0, _), (1, _), (2, _)] _ _
    refine tr_seq (fun K9 hK9 => ?_)
    first | refine tr_cond rfl (fun c16 => ?_) (fun c16 => ?_) | refine tr_condb rfl (fun c16 => ?_) (fun c16 => ?_)
    · skip
      refine tr_skip (hK9 _ _ (TrC.keep [16, 15, 6, 14, 13, 12, 0, 1, 2] ?_))
      show TrC _ _ _ _ [(16, _), (15, _), (6, _), (14, _), (13, _), (12, _), (0, _), (1, _), (2, _)] _ _
      refine tr_seq (fun K10 hK10 => ?_)
      refine tr_block ?_
      refine tr_seq (fun K11 hK11 => ?_)
      -- region 5: span.go:57
      refine tr_region ?_
      refine tr_val (ov_indexAddrR (H.rd0 hR) rfl Try.underlying33 (Try.sizeOf40 _) rfl rfl (by omega) (by omega)) rfl rfl rfl ?_
      refine tr_val (ld_Span (H.rd0 hR) rfl (Try.isAgg40 _) (Try.sizeOf40 _) rfl (by omega) (by omega)) rfl rfl rfl ?_
      refine tr_alloc H rfl (Try.zeroValue40 _) rfl rfl rfl rfl ?_
      intro b1 w3 hb1 H
      first | (refine tr_storeW H.get0 rfl (Try.sizeOf40 _) rfl rfl rfl rfl rfl rfl rfl rfl ?_; intro w4 U; have H := H.upd0 U; clear U) | (refine tr_storeW H.get1 rfl (Try.sizeOf40 _) rfl rfl rfl rfl rfl rfl rfl rfl ?_; intro w4 U; have H := H.upd1 U; clear U) | (refine tr_storeW H.get2 rfl (Try.sizeOf40 _) rfl rfl rfl rfl rfl rfl rfl rfl ?_; intro w4 U; have H := H.upd2 U; clear U) | (refine tr_storeW H.get3 rfl (Try.sizeOf40 _) rfl rfl rfl rfl rfl rfl rfl rfl ?_; intro w4 U; have H := H.upd3 U; clear U) | (refine tr_storeW H.get4 rfl (Try.sizeOf40 _) rfl rfl rfl rfl rfl rfl rfl rfl ?_; intro w4 U; have H := H.upd4 U; clear U) | (refine tr_storeW H.get5 rfl (Try.sizeOf40 _) rfl rfl rfl rfl rfl rfl rfl rfl ?_; intro w4 U; have H := H.upd5 U; clear U)
      refine tr_nil (hK11 _ _ (TrC.keep [8, 16, 15, 6, 14, 13, 12, 0, 1, 2] ?_))
      show TrC _ _ _ _ [(8, _), (16, _), (15, _), (6, _), (14, _), (13, _), (12, _), (0, _), (1, _), (2, _)] _ _
      refine tr_seq (fun K12 hK12 => ?_)
      -- region 6: span.go:58
      refine tr_region ?_
      first | refine tr_val (ov_load_blkN H.get0 rfl (Try.isAgg40 _) (Try.sizeOf40 _) rfl rfl rfl) rfl rfl rfl ?_ | refine tr_val (ov_load_blkN H.get1 rfl (Try.isAgg40 _) (Try.sizeOf40 _) rfl rfl rfl) rfl rfl rfl ?_ | refine tr_val (ov_load_blkN H.get2 rfl (Try.isAgg40 _) (Try.sizeOf40 _) rfl rfl rfl) rfl rfl rfl ?_ | refine tr_val (ov_load_blkN H.get3 rfl (Try.isAgg40 _) (Try.sizeOf40 _) rfl rfl rfl) rfl rfl rfl ?_ | refine tr_val (ov_load_blkN H.get4 rfl (Try.isAgg40 _) (Try.sizeOf40 _) rfl rfl rfl) rfl rfl rfl ?_ | refine tr_val (ov_load_blkN H.get5 rfl (Try.isAgg40 _) (Try.sizeOf40 _) rfl rfl rfl) rfl rfl rfl ?_
      refine tr_val (ov_move rfl rfl) rfl rfl rfl ?_
      refine tr_val (ov_move rfl rfl) rfl rfl rfl ?_
      refine tr_call (common_c (gt L i) a b _) rfl rfl rfl Try.call69 rfl rfl rfl ?_
      rintro _ w5 ⟨rfl, HC⟩
      have H := H.call0n HC
      refine tr_alloc H rfl (Try.zeroValue40 _) rfl rfl rfl rfl ?_
      intro b2 w6 hb2 H
      first | (refine tr_storeW H.get0 rfl (Try.sizeOf40 _) rfl rfl rfl rfl rfl rfl rfl rfl ?_; intro w7 U; have H := H.upd0 U; clear U) | (refine tr_storeW H.get1 rfl (Try.sizeOf40 _) rfl rfl rfl rfl rfl rfl rfl rfl ?_; intro w7 U; have H := H.upd1 U; clear U) | (refine tr_storeW H.get2 rfl (Try.sizeOf40 _) rfl rfl rfl rfl rfl rfl rfl rfl ?_; intro w7 U; have H := H.upd2 U; clear U) | (refine tr_storeW H.get3 rfl (Try.sizeOf40 _) rfl rfl rfl rfl rfl rfl rfl rfl ?_; intro w7 U; have H := H.upd3 U; clear U) | (refine tr_storeW H.get4 rfl (Try.sizeOf40 _) rfl rfl rfl rfl rfl rfl rfl rfl ?_; intro w7 U; have H := H.upd4 U; clear U) | (refine tr_storeW H.get5 rfl (Try.sizeOf40 _) rfl rfl rfl rfl rfl rfl rfl rfl ?_; intro w7 U; have H := H.upd5 U; clear U)
      refine tr_nil (hK12 _ _ (TrC.keep [9, 8, 16, 15, 6, 14, 13, 12, 0, 1, 2] ?_))
      show TrC _ _ _ _ [(9, _), (8, _), (16, _), (15, _), (6, _), (14, _), (13, _), (12, _), (0, _), (1, _), (2, _)] _ _
      refine tr_seq (fun K13 hK13 => ?_)
      -- region 7: span.go:58
      refine tr_region ?_
      refine tr_val (ov_fieldAddr rfl Try.underlying40 rfl (Try.sizeOf2 _) (by decide) rfl) rfl rfl rfl ?_
      first | refine tr_val (ov_load_blk H.get0 rfl (Try.isAgg2 _) rfl rfl rfl) rfl rfl rfl ?_ | refine tr_val (ov_load_blk H.get1 rfl (Try.isAgg2 _) rfl rfl rfl) rfl rfl rfl ?_ | refine tr_val (ov_load_blk H.get2 rfl (Try.isAgg2 _) rfl rfl rfl) rfl rfl rfl ?_ | refine tr_val (ov_load_blk H.get3 rfl (Try.isAgg2 _) rfl rfl rfl) rfl rfl rfl ?_ | refine tr_val (ov_load_blk H.get4 rfl (Try.isAgg2 _) rfl rfl rfl) rfl rfl rfl ?_ | refine tr_val (ov_load_blk H.get5 rfl (Try.isAgg2 _) rfl rfl rfl) rfl rfl rfl ?_
      refine tr_val (ov_fieldAddr rfl Try.underlying40 rfl (Try.sizeOf2 _) (by decide) rfl) rfl rfl rfl ?_
      first | refine tr_val (ov_load_blk H.get0 rfl (Try.isAgg2 _) rfl rfl rfl) rfl rfl rfl ?_ | refine tr_val (ov_load_blk H.get1 rfl (Try.isAgg2 _) rfl rfl rfl) rfl rfl rfl ?_ | refine tr_val (ov_load_blk H.get2 rfl (Try.isAgg2 _) rfl rfl rfl) rfl rfl rfl ?_ | refine tr_val (ov_load_blk H.get3 rfl (Try.isAgg2 _) rfl rfl rfl) rfl rfl rfl ?_ | refine tr_val (ov_load_blk H.get4 rfl (Try.isAgg2 _) rfl rfl rfl) rfl rfl rfl ?_ | refine tr_val (ov_load_blk H.get5 rfl (Try.isAgg2 _) rfl rfl rfl) rfl rfl rfl ?_
      refine tr_val (ov_lss rfl rfl rfl) rfl rfl rfl ?_
      refine tr_nil (hK13 _ _ (TrC.keep [27, 9, 8, 16, 15, 6, 14, 13, 12, 0, 1, 2] ?_))
      show TrC _ _ _ _ [(27, _), (9, _), (8, _), (16, _), (15, _), (6, _), (14, _), (13, _), (12, _), (0, _), (1, _), (2, _)] _ _
      first | refine tr_cond rfl (fun c27 => ?_) (fun c27 => ?_) | refine tr_condb rfl (fun c27 => ?_) (fun c27 => ?_)
      · skip
        -- region 8: span.go:59
        refine tr_region ?_
        refine tr_val (ov_move rfl rfl) rfl rfl rfl ?_
        first | refine tr_val (ov_load_blkN H.get0 rfl (Try.isAgg40 _) (Try.sizeOf40 _) rfl rfl rfl) rfl rfl rfl ?_ | refine tr_val (ov_load_blkN H.get1 rfl (Try.isAgg40 _) (Try.sizeOf40 _) rfl rfl rfl) rfl rfl rfl ?_ | refine tr_val (ov_load_blkN H.get2 rfl (Try.isAgg40 _) (Try.sizeOf40 _) rfl rfl rfl) rfl rfl rfl ?_ | refine tr_val (ov_load_blkN H.get3 rfl (Try.isAgg40 _) (Try.sizeOf40 _) rfl rfl rfl) rfl rfl rfl ?_ | refine tr_val (ov_load_blkN H.get4 rfl (Try.isAgg40 _) (Try.sizeOf40 _) rfl rfl rfl) rfl rfl rfl ?_ | refine tr_val (ov_load_blkN H.get5 rfl (Try.isAgg40 _) (Try.sizeOf40 _) rfl rfl rfl) rfl rfl rfl ?_
        refine tr_buildSlice H rfl Try.underlying33 info40 rfl (fun ρ k => bs1 k rfl) (by decide) (by decide) (fill_Span_1 _ _) rfl rfl rfl ?_
        intro b3 w8 hb3 H
        refine tr_append H.get3 (rd_blk [common (gt L i) a b] H.get0 rfl lenSpan) rfl rfl rfl Try.underlying33 info40 rfl rfl (show Try.t40.bytes = 16 from rfl) rfl (by decide) lenSpan oneSpan (by simp; omega) (by simp [maxLen]; omega) rfl rfl rfl ?_
        intro A' c' w9 U; have H := H.upd3 U; clear U
        refine tr_val (ov_assign rfl rfl) rfl rfl rfl ?_
        refine tr_nil (hK10 _ _ (TrC.keep [6, 27, 9, 8, 16, 15, 14, 13, 12, 0, 1, 2] ?_))
        show TrC _ _ _ _ [(6, _), (27, _), (9, _), (8, _), (16, _), (15, _), (14, _), (13, _), (12, _), (0, _), (1, _), (2, _)] _ _
        -- region 9: span.go:57
        refine tr_region ?_
        refine tr_val (ov_add rfl rfl rfl (w64 (by omega))) rfl rfl rfl ?_
        refine tr_val (ov_move rfl rfl) rfl rfl rfl ?_
        skip
        exact tr_nil (hK7 (⟨i + 1, R ++ [common (gt L i) a b], A', c'⟩) _ _ (⟨by omega, by omega, by simp; omega, by rw [← hx, cutL_pos hi0 (by omega) (by simpa [common] using c27)]; simp [common], H.drop0.drop0.drop0⟩) (by first | omega | (dsimp only; omega)) (Sub.cons rfl (Sub.cons rfl (Sub.cons rfl (Sub.cons rfl (Sub.cons rfl (Sub.cons rfl (Sub.cons rfl (Sub.cons rfl Sub.nil)))))))))
      · skip
        refine tr_skip (hK10 _ _ (TrC.keep [27, 9, 8, 16, 15, 6, 14, 13, 12, 0, 1, 2] ?_))
        show TrC _ _ _ _ [(27, _), (9, _), (8, _), (16, _), (15, _), (6, _), (14, _), (13, _), (12, _), (0, _), (1, _), (2, _)] _ _
        -- region 9: span.go:57
        refine tr_region ?_
        refine tr_val (ov_add rfl rfl rfl (w64 (by omega))) rfl rfl rfl ?_
        refine tr_val (ov_move rfl rfl) rfl rfl rfl ?_
        skip
        exact tr_nil (hK7 (⟨i + 1, R, A1, c1⟩) _ _ (⟨by omega, by omega, by omega, by rw [← hx, cutL_neg hi0 (by omega) (by simpa [common] using c27)], H.drop0.drop0⟩) (by first | omega | (dsimp only; omega)) (Sub.cons rfl (Sub.cons rfl (Sub.cons rfl (Sub.cons rfl (Sub.cons rfl (Sub.cons rfl (Sub.cons rfl (Sub.cons rfl Sub.nil)))))))))
    · skip
      refine tr_exit (hK5 _ _ (TrC.keep [16, 15, 6, 14, 13, 12, 0, 1, 2] ?_))
      show TrC _ _ _ _ [(16, _), (15, _), (6, _), (14, _), (13, _), (12, _), (0, _), (1, _), (2, _)] _ _
      refine tr_seq (fun K14 hK14 => ?_)
      -- region 10: span.go:62
      refine tr_region ?_
      refine tr_val (ov_move rfl rfl) rfl rfl rfl ?_
      refine tr_val (ov_assign rfl rfl) rfl rfl rfl ?_
      refine tr_nil (hK14 _ _ (TrC.keep [6, 16, 15, 14, 13, 12, 0, 1, 2] ?_))
      show TrC _ _ _ _ [(6, _), (16, _), (15, _), (14, _), (13, _), (12, _), (0, _), (1, _), (2, _)] _ _
      refine tr_ret (post_ret1 (.inr rfl) rfl rfl ?_)
      have hz := cutL_end (L := L) (a := a) (b := b) (i := i) (by omega)
      rw [hz, List.append_nil] at hx
      rw [show cutV L a b = R by unfold cutV; rw [if_pos (by omega)]; exact hx.symm]
      exact ⟨A1, c1, rfl, H⟩

/-! curfew/curfewref07.Cut -/
set_option maxRecDepth 20000 in
theorem CutR_c (A : Option Addr) (c : Nat) (L : List Sp) (w : World) (hR : Rd w A 2 (L.map encSpan)) (hL : L.length ≤ 4294967296) (a b : Int) : Does Try.prog 60 #[.slice A L.length c, .int .i64 a, .int .i64 b] w (fun v w' => ∃ A' c', v = .slice A' (cutV L a b).length c' ∧ SH w noBlocks [vec A' c' 40 2 encSpan (cutV L a b)] w') := by
  refine does_enter3 Try.func60 rfl Try.ntmps60 rfl ?_
  have H := SH.start w noBlocks
  refine tr_seq (fun K1 hK1 => ?_)
  -- region 0: ref.go:65
  have H := H.addNil 40 2 encSpan
  refine tr_region ?_
  refine tr_val (ov_assign rfl rfl) rfl rfl rfl ?_
  refine tr_nil (hK1 _ _ (TrC.keep [6, 0, 1, 2] ?_))
  show TrC _ _ _ _ [(6, _), (0, _), (1, _), (2, _)] _ _
  refine tr_seq (fun K2 hK2 => ?_)
  -- region 1: ref.go:66
  refine tr_region ?_
  refine tr_val (ov_assign rfl rfl) rfl rfl rfl ?_
  refine tr_nil (hK2 _ _ (TrC.keep [7, 6, 0, 1, 2] ?_))
  show TrC _ _ _ _ [(7, _), (6, _), (0, _), (1, _), (2, _)] _ _
  refine tr_seq (fun K3 hK3 => ?_)
  refine tr_seq (fun K4 hK4 => ?_)
  -- region 2: ref.go:67
  refine tr_region ?_
  refine tr_val (ov_move rfl rfl) rfl rfl rfl ?_
  refine tr_call (RowR_c A c L _ (H.rd0 hR) hL) rfl rfl rfl Try.call19 rfl rfl rfl ?_
  rintro _ w1 ⟨rfl, HC⟩
  have H := H.call0n HC
  refine tr_val (ov_neq rfl rfl rfl) rfl rfl rfl ?_
  refine tr_nil (hK4 _ _ (TrC.keep [13, 7, 6, 0, 1, 2] ?_))
  show TrC _ _ _ _ [(13, _), (7, _), (6, _), (0, _), (1, _), (2, _)] _ _
  first | refine tr_cond rfl (fun c13 => ?_) (fun c13 => ?_) | refine tr_condb rfl (fun c13 => ?_) (fun c13 => ?_)
  · skip
    refine tr_seq (fun K5 hK5 => ?_)
    -- region 3: ref.go:68
    refine tr_region ?_
    refine tr_val (ov_assign rfl rfl) rfl rfl rfl ?_
    refine tr_nil (hK5 _ _ (TrC.keep [6, 13, 7, 0, 1, 2] ?_))
    show TrC _ _ _ _ [(6, _), (13, _), (7, _), (0, _), (1, _), (2, _)] _ _
    refine tr_ret (post_ret1 (.inr rfl) rfl rfl ?_)
    rw [show cutV L a b = [] by unfold cutV; rw [if_neg (by omega)]]; exact ⟨none, 0, rfl, H⟩
  · skip
    refine tr_skip (hK3 _ _ (TrC.keep [13, 7, 6, 0, 1, 2] ?_))
    show TrC _ _ _ _ [(13, _), (7, _), (6, _), (0, _), (1, _), (2, _)] _ _
    refine tr_seq (fun K6 hK6 => ?_)
    refine tr_seq (fun K7 hK7 => ?_)
    -- region 4: ref.go:70
    have hl32 := (rowV_zero (L := L) (by omega)).1
    refine tr_region ?_
    refine tr_val (ov_assign rfl rfl) rfl rfl rfl ?_
    refine tr_nil (hK7 _ _ (TrC.keep [8, 13, 7, 6, 0, 1, 2] ?_))
    show TrC _ _ _ _ [(8, _), (13, _), (7, _), (6, _), (0, _), (1, _), (2, _)] _ _
    refine tr_block ?_
    refine tr_loop_ (X := Int × List Sp × Option Addr × Nat) [13, 6, 0, 1, 2] (fun ⟨i, R, A1, c1⟩ => [(8, .int .i64 i), (7, .slice A1 R.length c1)]) (fun ⟨i, R, A1, c1⟩ w' => 0 ≤ i ∧ i ≤ L.length ∧ R.length ≤ i.toNat ∧ R ++ cutL (L.drop i.toNat) a b = cutL L a b ∧ SH w noBlocks [vec A1 c1 40 2 encSpan R] w') (fun ⟨i, R, A1, c1⟩ => (L.length - i).toNat) (⟨0, [], none, 0⟩) (Sub.cons rfl (Sub.cons rfl (Sub.cons rfl (Sub.cons rfl (Sub.cons rfl (Sub.cons rfl (Sub.cons rfl Sub.nil))))))) (⟨by omega, by omega, by simp, rfl, H⟩) ?_
    rintro ⟨i, R, A1, c1⟩ w2 ⟨hi0, hi1, hRl, hx, H⟩ K8 hK8
    show TrC _ _ _ _ [(8, _), (7, _), (13, _), (6, _), (0, _), (1, _), (2, _)] _ _
    refine tr_seq (fun K9 hK9 => ?_)
    refine tr_seq (fun K10 hK10 => ?_)
    -- region 5: ref.go:70
    refine tr_region ?_
    refine tr_val (ov_move rfl rfl) rfl rfl rfl ?_
    refine tr_val (ov_move rfl rfl) rfl rfl rfl ?_
    refine tr_val (ov_len rfl rfl Try.underlying33 rfl) rfl rfl rfl ?_
    refine tr_val (ov_lss rfl rfl rfl) rfl rfl rfl ?_
    refine tr_nil (hK10 _ _ (TrC.keep [17, 8, 7, 13, 6, 0, 1, 2] ?_))
    show TrC _ _ _ _ [(17, _), (8, _), (7, _), (13, _), (6, _), (0, _), (1, _), (2, _)] _ _
    first | refine tr_cond rfl (fun c17 => ?_) (fun c17 => ?_) | refine tr_condb rfl (fun c17 => ?_) (fun c17 => ?_)
    · skip
      refine tr_skip (hK9 _ _ (TrC.keep [17, 8, 7, 13, 6, 0, 1, 2] ?_))
      show TrC _ _ _ _ [(17, _), (8, _), (7, _), (13, _), (6, _), (0, _), (1, _), (2, _)] _ _
      refine tr_seq (fun K11 hK11 => ?_)
      refine tr_block ?_
      refine tr_seq (fun K12 hK12 => ?_)
      -- region 7: ref.go:71
      refine tr_region ?_
      refine tr_val (ov_move rfl rfl) rfl rfl rfl ?_
      refine tr_val (ov_move rfl rfl) rfl rfl rfl ?_
      refine tr_val (ov_indexAddrR (H.rd0 hR) rfl Try.underlying33 (Try.sizeOf40 _) rfl rfl (by omega) (by omega)) rfl rfl rfl ?_
      refine tr_val (ld_Span (H.rd0 hR) rfl (Try.isAgg40 _) (Try.sizeOf40 _) rfl (by omega) (by omega)) rfl rfl rfl ?_
      refine tr_val (ov_move rfl rfl) rfl rfl rfl ?_
      refine tr_val (ov_move rfl rfl) rfl rfl rfl ?_
      refine tr_call (part_c (gt L i) a b _) rfl rfl rfl Try.call70 rfl rfl rfl ?_
      rintro _ w3 ⟨rfl, HC⟩
      have H := H.call0n HC
      refine tr_val (ov_move rfl rfl) rfl rfl rfl ?_
      refine tr_val (ov_extract rfl rfl rfl) rfl rfl rfl ?_
      refine tr_val (ov_extract rfl rfl rfl) rfl rfl rfl ?_
      refine tr_alloc H rfl (Try.zeroValue40 _) rfl rfl rfl rfl ?_
      intro b1 w4 hb1 H
      first | (refine tr_storeW H.get0 rfl (Try.sizeOf40 _) rfl rfl rfl rfl rfl rfl rfl rfl ?_; intro w5 U; have H := H.upd0 U; clear U) | (refine tr_storeW H.get1 rfl (Try.sizeOf40 _) rfl rfl rfl rfl rfl rfl rfl rfl ?_; intro w5 U; have H := H.upd1 U; clear U) | (refine tr_storeW H.get2 rfl (Try.sizeOf40 _) rfl rfl rfl rfl rfl rfl rfl rfl ?_; intro w5 U; have H := H.upd2 U; clear U) | (refine tr_storeW H.get3 rfl (Try.sizeOf40 _) rfl rfl rfl rfl rfl rfl rfl rfl ?_; intro w5 U; have H := H.upd3 U; clear U) | (refine tr_storeW H.get4 rfl (Try.sizeOf40 _) rfl rfl rfl rfl rfl rfl rfl rfl ?_; intro w5 U; have H := H.upd4 U; clear U) | (refine tr_storeW H.get5 rfl (Try.sizeOf40 _) rfl rfl rfl rfl rfl rfl rfl rfl ?_; intro w5 U; have H := H.upd5 U; clear U)
      refine tr_val (ov_assign rfl rfl) rfl rfl rfl ?_
      refine tr_nil (hK12 _ _ (TrC.keep [10, 9, 17, 8, 7, 13, 6, 0, 1, 2] ?_))
      show TrC _ _ _ _ [(10, _), (9, _), (17, _), (8, _), (7, _), (13, _), (6, _), (0, _), (1, _), (2, _)] _ _
      refine tr_seq (fun K13 hK13 => ?_)
      -- region 8: ref.go:72
      refine tr_region ?_
      refine tr_val (ov_move rfl rfl) rfl rfl rfl ?_
      refine tr_nil (hK13 _ _ (TrC.keep [30, 9, 17, 8, 7, 13, 6, 0, 1, 2] ?_))
      show TrC _ _ _ _ [(30, _), (9, _), (17, _), (8, _), (7, _), (13, _), (6, _), (0, _), (1, _), (2, _)] _ _
      first | refine tr_cond rfl (fun c30 => ?_) (fun c30 => ?_) | refine tr_condb rfl (fun c30 => ?_) (fun c30 => ?_)
      · skip
        -- region 9: ref.go:73
        refine tr_region ?_
        refine tr_val (ov_move rfl rfl) rfl rfl rfl ?_
        first | refine tr_val (ov_load_blkN H.get0 rfl (Try.isAgg40 _) (Try.sizeOf40 _) rfl rfl rfl) rfl rfl rfl ?_ | refine tr_val (ov_load_blkN H.get1 rfl (Try.isAgg40 _) (Try.sizeOf40 _) rfl rfl rfl) rfl rfl rfl ?_ | refine tr_val (ov_load_blkN H.get2 rfl (Try.isAgg40 _) (Try.sizeOf40 _) rfl rfl rfl) rfl rfl rfl ?_ | refine tr_val (ov_load_blkN H.get3 rfl (Try.isAgg40 _) (Try.sizeOf40 _) rfl rfl rfl) rfl rfl rfl ?_ | refine tr_val (ov_load_blkN H.get4 rfl (Try.isAgg40 _) (Try.sizeOf40 _) rfl rfl rfl) rfl rfl rfl ?_ | refine tr_val (ov_load_blkN H.get5 rfl (Try.isAgg40 _) (Try.sizeOf40 _) rfl rfl rfl) rfl rfl rfl ?_
        refine tr_buildSlice H rfl Try.underlying33 info40 rfl (fun ρ k => bs1 k rfl) (by decide) (by decide) (fill_Span_1 _ _) rfl rfl rfl ?_
        intro b2 w6 hb2 H
        refine tr_append H.get2 (rd_blk [common (gt L i) a b] H.get0 rfl lenSpan) rfl rfl rfl Try.underlying33 info40 rfl rfl (show Try.t40.bytes = 16 from rfl) rfl (by decide) lenSpan oneSpan (by simp; omega) (by simp [maxLen]; omega) rfl rfl rfl ?_
        intro A' c' w7 U; have H := H.upd2 U; clear U
        refine tr_val (ov_assign rfl rfl) rfl rfl rfl ?_
        refine tr_nil (hK11 _ _ (TrC.keep [7, 30, 9, 17, 8, 13, 6, 0, 1, 2] ?_))
        show TrC _ _ _ _ [(7, _), (30, _), (9, _), (17, _), (8, _), (13, _), (6, _), (0, _), (1, _), (2, _)] _ _
        -- region 6: ref.go:70
        refine tr_region ?_
        refine tr_val (ov_move rfl rfl) rfl rfl rfl ?_
        refine tr_val (ov_add rfl rfl rfl (w64 (by omega))) rfl rfl rfl ?_
        refine tr_val (ov_assign rfl rfl) rfl rfl rfl ?_
        skip
        exact tr_nil (hK8 (⟨i + 1, R ++ [common (gt L i) a b], A', c'⟩) _ _ (⟨by omega, by omega, by simp; omega, by rw [← hx, cutL_pos hi0 (by omega) (by simpa [common] using c30)]; simp [common], H.drop0.drop0⟩) (by first | omega | (dsimp only; omega)) (Sub.cons rfl (Sub.cons rfl (Sub.cons rfl (Sub.cons rfl (Sub.cons rfl (Sub.cons rfl (Sub.cons rfl Sub.nil))))))))
      · skip
        refine tr_skip (hK11 _ _ (TrC.keep [30, 9, 17, 8, 7, 13, 6, 0, 1, 2] ?_))
        show TrC _ _ _ _ [(30, _), (9, _), (17, _), (8, _), (7, _), (13, _), (6, _), (0, _), (1, _), (2, _)] _ _
        -- region 6: ref.go:70
        refine tr_region ?_
        refine tr_val (ov_move rfl rfl) rfl rfl rfl ?_
        refine tr_val (ov_add rfl rfl rfl (w64 (by omega))) rfl rfl rfl ?_
        refine tr_val (ov_assign rfl rfl) rfl rfl rfl ?_
        skip
        exact tr_nil (hK8 (⟨i + 1, R, A1, c1⟩) _ _ (⟨by omega, by omega, by omega, by rw [← hx, cutL_neg hi0 (by omega) (by simpa [common] using c30)], H.drop0⟩) (by first | omega | (dsimp only; omega)) (Sub.cons rfl (Sub.cons rfl (Sub.cons rfl (Sub.cons rfl (Sub.cons rfl (Sub.cons rfl (Sub.cons rfl Sub.nil))))))))
    · skip
      refine tr_exit (hK6 _ _ (TrC.keep [17, 8, 7, 13, 6, 0, 1, 2] ?_))
      show TrC _ _ _ _ [(17, _), (8, _), (7, _), (13, _), (6, _), (0, _), (1, _), (2, _)] _ _
      refine tr_seq (fun K14 hK14 => ?_)
      -- region 10: ref.go:76
      refine tr_region ?_
      refine tr_val (ov_move rfl rfl) rfl rfl rfl ?_
      refine tr_val (ov_assign rfl rfl) rfl rfl rfl ?_
      refine tr_nil (hK14 _ _ (TrC.keep [6, 17, 8, 7, 13, 0, 1, 2] ?_))
      show TrC _ _ _ _ [(6, _), (17, _), (8, _), (7, _), (13, _), (0, _), (1, _), (2, _)] _ _
      refine tr_ret (post_ret1 (.inr rfl) rfl rfl ?_)
      have hz := cutL_end (L := L) (a := a) (b := b) (i := i) (by omega)
      rw [hz, List.append_nil] at hx
      rw [show cutV L a b = R by unfold cutV; rw [if_pos (by omega)]; exact hx.symm]
      exact ⟨A1, c1, rfl, H⟩

/-! curfew/span.Within -/
set_option maxRecDepth 20000 in
theorem Within_c (A : Option Addr) (c : Nat) (L : List Sp) (w : World) (hR : Rd w A 2 (L.map encSpan)) (hL : L.length ≤ 4294967296) (a b : Int) : Does Try.prog 39 #[.slice A L.length c, .int .i64 a, .int .i64 b] w (fun v w' => v = .int .i64 (withinV L a b) ∧ SH w noBlocks [] w') := by
  refine does_enter3 Try.func39 rfl Try.ntmps39 rfl ?_
  have H := SH.start w noBlocks
  refine tr_seq (fun K1 hK1 => ?_)
  -- region 0: span.go:66
  refine tr_region ?_
  refine tr_val (ov_assign rfl rfl) rfl rfl rfl ?_
  refine tr_nil (hK1 _ _ (TrC.keep [6, 0, 1, 2] ?_))
  show TrC _ _ _ _ [(6, _), (0, _), (1, _), (2, _)] _ _
  refine tr_seq (fun K2 hK2 => ?_)
  refine tr_seq (fun K3 hK3 => ?_)
  -- region 1: span.go:67
  refine tr_region ?_
  refine tr_val (ov_move rfl rfl) rfl rfl rfl ?_
  refine tr_val (ov_move rfl rfl) rfl rfl rfl ?_
  refine tr_val (ov_move rfl rfl) rfl rfl rfl ?_
  refine tr_call (Cut_c A c L _ (H.rd0 hR) hL a b) rfl rfl rfl Try.call59 rfl rfl rfl ?_
  rintro _ w1 ⟨A', c', rfl, HC⟩
  have H := H.call0r HC
  refine tr_val (ov_len rfl rfl Try.underlying33 rfl) rfl rfl rfl ?_
  refine tr_val (ov_move rfl rfl) rfl rfl rfl ?_
  refine tr_nil (hK3 _ _ (TrC.keep [14, 13, 12, 6] ?_))
  show TrC _ _ _ _ [(14, _), (13, _), (12, _), (6, _)] _ _
  refine tr_block ?_
  refine tr_loop_ (X := Int × Int) [13, 12] (fun ⟨i, t⟩ => [(14, .int .i64 i), (6, .int .i64 t)]) (fun ⟨i, t⟩ w' => 0 ≤ i ∧ i ≤ (cutV L a b).length ∧ 0 ≤ t ∧ t ≤ i * 1125899906842624 ∧ t + sumL ((cutV L a b).drop i.toNat) = sumL (cutV L a b) ∧ SH w noBlocks [vec A' c' 40 2 encSpan (cutV L a b)] w') (fun ⟨i, t⟩ => ((cutV L a b).length - i).toNat) (⟨0, 0⟩) (Sub.cons rfl (Sub.cons rfl (Sub.cons rfl (Sub.cons rfl Sub.nil)))) (⟨by omega, by omega, by omega, by omega, by simp, H⟩) ?_
  rintro ⟨i, t⟩ w2 ⟨hi0, hi1, ht0, ht1, hx, H⟩ K4 hK4
  show TrC _ _ _ _ [(14, _), (6, _), (13, _), (12, _)] _ _
  refine tr_seq (fun K5 hK5 => ?_)
  -- region 2: span.go:67
  refine tr_region ?_
  refine tr_val (ov_lss rfl rfl rfl) rfl rfl rfl ?_
  refine tr_nil (hK5 _ _ (TrC.keep [15, 14, 6, 13, 12] ?_))
  show TrC _ _ _ _ [(15, _), (14, _), (6, _), (13, _), (12, _)] _ _
  refine tr_seq (fun K6 hK6 => ?_)
  first | refine tr_cond rfl (fun c15 => ?_) (fun c15 => ?_) | refine tr_condb rfl (fun c15 => ?_) (fun c15 => ?_)
  · skip
    refine tr_skip (hK6 _ _ (TrC.keep [15, 14, 6, 13, 12] ?_))
    show TrC _ _ _ _ [(15, _), (14, _), (6, _), (13, _), (12, _)] _ _
    refine tr_seq (fun K7 hK7 => ?_)
    refine tr_block ?_
    refine tr_seq (fun K8 hK8 => ?_)
    -- region 3: span.go:67
    have hs := cutV_small.2 _ (gt_mem (L := (cutV L a b)) hi0 (by omega))
    have hc32 := (cutV_small (L := L) (a := a) (b := b)).1
    refine tr_region ?_
    refine tr_val (ov_indexAddrR (vec_rd H.get0 lenSpan (by decide)) rfl Try.underlying33 (Try.sizeOf40 _) rfl rfl (by omega) (by omega)) rfl rfl rfl ?_
    refine tr_val (ld_Span (vec_rd H.get0 lenSpan (by decide)) rfl (Try.isAgg40 _) (Try.sizeOf40 _) rfl (by omega) (by omega)) rfl rfl rfl ?_
    refine tr_alloc H rfl (Try.zeroValue40 _) rfl rfl rfl rfl ?_
    intro b1 w3 hb1 H
    first | (refine tr_storeW H.get0 rfl (Try.sizeOf40 _) rfl rfl rfl rfl rfl rfl rfl rfl ?_; intro w4 U; have H := H.upd0 U; clear U) | (refine tr_storeW H.get1 rfl (Try.sizeOf40 _) rfl rfl rfl rfl rfl rfl rfl rfl ?_; intro w4 U; have H := H.upd1 U; clear U) | (refine tr_storeW H.get2 rfl (Try.sizeOf40 _) rfl rfl rfl rfl rfl rfl rfl rfl ?_; intro w4 U; have H := H.upd2 U; clear U) | (refine tr_storeW H.get3 rfl (Try.sizeOf40 _) rfl rfl rfl rfl rfl rfl rfl rfl ?_; intro w4 U; have H := H.upd3 U; clear U) | (refine tr_storeW H.get4 rfl (Try.sizeOf40 _) rfl rfl rfl rfl rfl rfl rfl rfl ?_; intro w4 U; have H := H.upd4 U; clear U) | (refine tr_storeW H.get5 rfl (Try.sizeOf40 _) rfl rfl rfl rfl rfl rfl rfl rfl ?_; intro w4 U; have H := H.upd5 U; clear U)
    refine tr_nil (hK8 _ _ (TrC.keep [8, 15, 14, 6, 13, 12] ?_))
    show TrC _ _ _ _ [(8, _), (15, _), (14, _), (6, _), (13, _), (12, _)] _ _
    -- region 4: span.go:68
    refine tr_region ?_
    refine tr_val (ov_move rfl rfl) rfl rfl rfl ?_
    refine tr_val (ov_fieldAddr rfl Try.underlying40 rfl (Try.sizeOf2 _) (by decide) rfl) rfl rfl rfl ?_
    first | refine tr_val (ov_load_blk H.get0 rfl (Try.isAgg2 _) rfl rfl rfl) rfl rfl rfl ?_ | refine tr_val (ov_load_blk H.get1 rfl (Try.isAgg2 _) rfl rfl rfl) rfl rfl rfl ?_ | refine tr_val (ov_load_blk H.get2 rfl (Try.isAgg2 _) rfl rfl rfl) rfl rfl rfl ?_ | refine tr_val (ov_load_blk H.get3 rfl (Try.isAgg2 _) rfl rfl rfl) rfl rfl rfl ?_ | refine tr_val (ov_load_blk H.get4 rfl (Try.isAgg2 _) rfl rfl rfl) rfl rfl rfl ?_ | refine tr_val (ov_load_blk H.get5 rfl (Try.isAgg2 _) rfl rfl rfl) rfl rfl rfl ?_
    refine tr_val (ov_fieldAddr rfl Try.underlying40 rfl (Try.sizeOf2 _) (by decide) rfl) rfl rfl rfl ?_
    first | refine tr_val (ov_load_blk H.get0 rfl (Try.isAgg2 _) rfl rfl rfl) rfl rfl rfl ?_ | refine tr_val (ov_load_blk H.get1 rfl (Try.isAgg2 _) rfl rfl rfl) rfl rfl rfl ?_ | refine tr_val (ov_load_blk H.get2 rfl (Try.isAgg2 _) rfl rfl rfl) rfl rfl rfl ?_ | refine tr_val (ov_load_blk H.get3 rfl (Try.isAgg2 _) rfl rfl rfl) rfl rfl rfl ?_ | refine tr_val (ov_load_blk H.get4 rfl (Try.isAgg2 _) rfl rfl rfl) rfl rfl rfl ?_ | refine tr_val (ov_load_blk H.get5 rfl (Try.isAgg2 _) rfl rfl rfl) rfl rfl rfl ?_
    refine tr_val (ov_sub rfl rfl rfl (w64 (by omega))) rfl rfl rfl ?_
    refine tr_val (ov_add rfl rfl rfl (w64 (by omega))) rfl rfl rfl ?_
    refine tr_val (ov_assign rfl rfl) rfl rfl rfl ?_
    refine tr_nil (hK7 _ _ (TrC.keep [6, 8, 15, 14, 13, 12] ?_))
    show TrC _ _ _ _ [(6, _), (8, _), (15, _), (14, _), (13, _), (12, _)] _ _
    -- region 5: span.go:67
    refine tr_region ?_
    refine tr_val (ov_add rfl rfl rfl (w64 (by omega))) rfl rfl rfl ?_
    refine tr_val (ov_move rfl rfl) rfl rfl rfl ?_
    skip
    exact tr_nil (hK4 (⟨i + 1, t + ((gt (cutV L a b) i).2 - (gt (cutV L a b) i).1)⟩) _ _ (⟨by omega, by omega, by omega, by omega, by rw [← hx, sumL_step hi0 (by omega)]; omega, H.drop0⟩) (by first | omega | (dsimp only; omega)) (Sub.cons rfl (Sub.cons rfl (Sub.cons rfl (Sub.cons rfl Sub.nil)))))
  · skip
    refine tr_exit (hK2 _ _ (TrC.keep [15, 14, 6, 13, 12] ?_))
    show TrC _ _ _ _ [(15, _), (14, _), (6, _), (13, _), (12, _)] _ _
    refine tr_seq (fun K9 hK9 => ?_)
    -- region 6: span.go:70
    refine tr_region ?_
    refine tr_val (ov_move rfl rfl) rfl rfl rfl ?_
    refine tr_val (ov_assign rfl rfl) rfl rfl rfl ?_
    refine tr_nil (hK9 _ _ (TrC.keep [6, 15, 14, 13, 12] ?_))
    show TrC _ _ _ _ [(6, _), (15, _), (14, _), (13, _), (12, _)] _ _
    refine tr_ret (post_ret1 (.inr rfl) rfl rfl ?_)
    have hz := sumL_end (L := (cutV L a b)) (i := i) (by omega)
    exact ⟨congrArg (Value.int .i64) (by unfold withinV; omega), H.drop0⟩

/-! curfew/curfewref07.Within -/
set_option maxRecDepth 20000 in
theorem WithinR_c (A : Option Addr) (c : Nat) (L : List Sp) (w : World) (hR : Rd w A 2 (L.map encSpan)) (hL : L.length ≤ 4294967296) (a b : Int) : Does Try.prog 32 #[.slice A L.length c, .int .i64 a, .int .i64 b] w (fun v w' => v = .int .i64 (withinV L a b) ∧ SH w noBlocks [] w') := by
  refine does_enter3 Try.func32 rfl Try.ntmps32 rfl ?_
  have H := SH.start w noBlocks
  refine tr_seq (fun K1 hK1 => ?_)
  -- region 0: ref.go:83
  refine tr_region ?_
  refine tr_val (ov_assign rfl rfl) rfl rfl rfl ?_
  refine tr_nil (hK1 _ _ (TrC.keep [6, 0, 1, 2] ?_))
  show TrC _ _ _ _ [(6, _), (0, _), (1, _), (2, _)] _ _
  refine tr_seq (fun K2 hK2 => ?_)
  -- region 1: ref.go:84
  refine tr_region ?_
  refine tr_val (ov_move rfl rfl) rfl rfl rfl ?_
  refine tr_val (ov_move rfl rfl) rfl rfl rfl ?_
  refine tr_val (ov_move rfl rfl) rfl rfl rfl ?_
  refine tr_call (CutR_c A c L _ (H.rd0 hR) hL a b) rfl rfl rfl Try.call60 rfl rfl rfl ?_
  rintro _ w1 ⟨A', c', rfl, HC⟩
  have H := H.call0r HC
  refine tr_val (ov_assign rfl rfl) rfl rfl rfl ?_
  refine tr_nil (hK2 _ _ (TrC.keep [7, 6] ?_))
  show TrC _ _ _ _ [(7, _), (6, _)] _ _
  refine tr_seq (fun K3 hK3 => ?_)
  -- region 2: ref.go:85
  refine tr_region ?_
  refine tr_val (ov_assign rfl rfl) rfl rfl rfl ?_
  refine tr_nil (hK3 _ _ (TrC.keep [8, 7, 6] ?_))
  show TrC _ _ _ _ [(8, _), (7, _), (6, _)] _ _
  refine tr_seq (fun K4 hK4 => ?_)
  refine tr_seq (fun K5 hK5 => ?_)
  -- region 3: ref.go:86
  refine tr_region ?_
  refine tr_val (ov_assign rfl rfl) rfl rfl rfl ?_
  refine tr_nil (hK5 _ _ (TrC.keep [9, 8, 7, 6] ?_))
  show TrC _ _ _ _ [(9, _), (8, _), (7, _), (6, _)] _ _
  refine tr_block ?_
  refine tr_loop_ (X := Int × Int) [7, 6] (fun ⟨i, t⟩ => [(9, .int .i64 i), (8, .int .i64 t)]) (fun ⟨i, t⟩ w' => 0 ≤ i ∧ i ≤ (cutV L a b).length ∧ 0 ≤ t ∧ t ≤ i * 1125899906842624 ∧ t + sumL ((cutV L a b).drop i.toNat) = sumL (cutV L a b) ∧ SH w noBlocks [vec A' c' 40 2 encSpan (cutV L a b)] w') (fun ⟨i, t⟩ => ((cutV L a b).length - i).toNat) (⟨0, 0⟩) (Sub.cons rfl (Sub.cons rfl (Sub.cons rfl (Sub.cons rfl Sub.nil)))) (⟨by omega, by omega, by omega, by omega, by simp, H⟩) ?_
  rintro ⟨i, t⟩ w2 ⟨hi0, hi1, ht0, ht1, hx, H⟩ K6 hK6
  show TrC _ _ _ _ [(9, _), (8, _), (7, _), (6, _)] _ _
  refine tr_seq (fun K7 hK7 => ?_)
  refine tr_seq (fun K8 hK8 => ?_)
  -- region 4: ref.go:86
  refine tr_region ?_
  refine tr_val (ov_move rfl rfl) rfl rfl rfl ?_
  refine tr_val (ov_move rfl rfl) rfl rfl rfl ?_
  refine tr_val (ov_len rfl rfl Try.underlying33 rfl) rfl rfl rfl ?_
  refine tr_val (ov_lss rfl rfl rfl) rfl rfl rfl ?_
  refine tr_nil (hK8 _ _ (TrC.keep [17, 9, 8, 7, 6] ?_))
  show TrC _ _ _ _ [(17, _), (9, _), (8, _), (7, _), (6, _)] _ _
  first | refine tr_cond rfl (fun c17 => ?_) (fun c17 => ?_) | refine tr_condb rfl (fun c17 => ?_) (fun c17 => ?_)
  · skip
    refine tr_skip (hK7 _ _ (TrC.keep [17, 9, 8, 7, 6] ?_))
    show TrC _ _ _ _ [(17, _), (9, _), (8, _), (7, _), (6, _)] _ _
    refine tr_seq (fun K9 hK9 => ?_)
    refine tr_block ?_
    -- region 6: ref.go:87
    have hs := cutV_small.2 _ (gt_mem (L := (cutV L a b)) hi0 (by omega))
    have hc32 := (cutV_small (L := L) (a := a) (b := b)).1
    refine tr_quiet mixed (by kernel_rfl) H ?_
    refine tq_val (fun _ H => ov_move rfl rfl) rfl rfl rfl ?_
    refine tq_val (fun _ H => ov_move rfl rfl) rfl rfl rfl ?_
    refine tq_val (fun _ H => ov_move rfl rfl) rfl rfl rfl ?_
    refine tq_val (fun _ H => ov_indexAddrR (vec_rd H.get0 lenSpan (by decide)) rfl Try.underlying33 (Try.sizeOf40 _) rfl rfl (by omega) (by omega)) rfl rfl rfl ?_
    refine tq_val (fun _ H => ov_fieldAddr rfl Try.underlying40 rfl (Try.sizeOf2 _) (by decide) rfl) rfl rfl rfl ?_
    refine tq_val (fun _ H => ld_Span_1 (vec_rd H.get0 lenSpan (by decide)) rfl (Try.isAgg2 _) rfl (by omega) (by omega)) rfl rfl rfl ?_
    refine tq_val (fun _ H => ov_add rfl rfl rfl (w64 (by omega))) rfl rfl rfl ?_
    refine tq_val (fun _ H => ov_move rfl rfl) rfl rfl rfl ?_
    refine tq_val (fun _ H => ov_move rfl rfl) rfl rfl rfl ?_
    refine tq_val (fun _ H => ov_indexAddrR (vec_rd H.get0 lenSpan (by decide)) rfl Try.underlying33 (Try.sizeOf40 _) rfl rfl (by omega) (by omega)) rfl rfl rfl ?_
    refine tq_val (fun _ H => ov_fieldAddr rfl Try.underlying40 rfl (Try.sizeOf2 _) (by decide) rfl) rfl rfl rfl ?_
    refine tq_val (fun _ H => ld_Span_0 (vec_rd H.get0 lenSpan (by decide)) rfl (Try.isAgg2 _) rfl (by omega) (by omega)) rfl rfl rfl ?_
    refine tq_val (fun _ H => ov_sub rfl rfl rfl (w64 (by omega))) rfl rfl rfl ?_
    refine tq_val (fun _ H => ov_assign rfl rfl) rfl rfl rfl ?_
    refine tq_nil ?_
    intro w3 H
    refine hK9 _ _ (TrC.keep [8, 17, 9, 7, 6] ?_)
    show TrC _ _ _ _ [(8, _), (17, _), (9, _), (7, _), (6, _)] _ _
    -- region 5: ref.go:86
    refine tr_region ?_
    refine tr_val (ov_move rfl rfl) rfl rfl rfl ?_
    refine tr_val (ov_add rfl rfl rfl (w64 (by omega))) rfl rfl rfl ?_
    refine tr_val (ov_assign rfl rfl) rfl rfl rfl ?_
    skip
    exact tr_nil (hK6 (⟨i + 1, t + (gt (cutV L a b) i).2 - (gt (cutV L a b) i).1⟩) _ _ (⟨by omega, by omega, by omega, by omega, by rw [← hx, sumL_step hi0 (by omega)]; omega, H⟩) (by first | omega | (dsimp only; omega)) (Sub.cons rfl (Sub.cons rfl (Sub.cons rfl (Sub.cons rfl Sub.nil)))))
  · skip
    refine tr_exit (hK4 _ _ (TrC.keep [17, 9, 8, 7, 6] ?_))
    show TrC _ _ _ _ [(17, _), (9, _), (8, _), (7, _), (6, _)] _ _
    refine tr_seq (fun K10 hK10 => ?_)
    -- region 7: ref.go:89
    refine tr_region ?_
    refine tr_val (ov_move rfl rfl) rfl rfl rfl ?_
    refine tr_val (ov_assign rfl rfl) rfl rfl rfl ?_
    refine tr_nil (hK10 _ _ (TrC.keep [6, 17, 9, 8, 7] ?_))
    show TrC _ _ _ _ [(6, _), (17, _), (9, _), (8, _), (7, _)] _ _
    refine tr_ret (post_ret1 (.inr rfl) rfl rfl ?_)
    have hz := sumL_end (L := (cutV L a b)) (i := i) (by omega)
    exact ⟨congrArg (Value.int .i64) (by unfold withinV; omega), H.drop0⟩

/-! curfew/span.Len -/
set_option maxRecDepth 20000 in
theorem Len_c (A : Option Addr) (c : Nat) (L : List Sp) (w : World) (hR : Rd w A 2 (L.map encSpan)) (hL : L.length ≤ 4294967296) : Does Try.prog 40 #[.slice A L.length c] w (fun v w' => v = .int .i64 (withinV L 0 1125899906842624) ∧ SH w noBlocks [] w') := by
  refine does_enter1 Try.func40 rfl Try.ntmps40 rfl ?_
  have H := SH.start w noBlocks
  refine tr_seq (fun K1 hK1 => ?_)
  -- region 0: span.go:74
  refine tr_region ?_
  refine tr_val (ov_assign rfl rfl) rfl rfl rfl ?_
  refine tr_nil (hK1 _ _ (TrC.keep [2, 0] ?_))
  show TrC _ _ _ _ [(2, _), (0, _)] _ _
  refine tr_seq (fun K2 hK2 => ?_)
  -- region 1: span.go:74
  refine tr_region ?_
  refine tr_val (ov_move rfl rfl) rfl rfl rfl ?_
  refine tr_call (Within_c A c L _ (H.rd0 hR) hL _ _) rfl rfl rfl Try.call39 rfl rfl rfl ?_
  rintro _ w1 ⟨rfl, HC⟩
  have H := H.call0n HC
  refine tr_val (ov_assign rfl rfl) rfl rfl rfl ?_
  refine tr_nil (hK2 _ _ (TrC.keep [2] ?_))
  show TrC _ _ _ _ [(2, _)] _ _
  refine tr_ret (post_ret1 (.inr rfl) rfl rfl ?_)
  exact ⟨rfl, H⟩

/-! curfew/span.Nth -/
set_option maxRecDepth 20000 in
theorem Nth_c (A : Option Addr) (c : Nat) (L : List Sp) (w : World) (hR : Rd w A 2 (L.map encSpan)) (hL : L.length ≤ 4294967296) (n : Int) (hn : -9223372036854775808 ≤ n ∧ n ≤ 9223372036854775807) : Does Try.prog 41 #[.slice A L.length c, .int .i64 n] w (fun v w' => v = nthT (nthV L n) ∧ SH w noBlocks [] w') := by
  refine does_enter2 Try.func41 rfl Try.ntmps41 rfl ?_
  have H := SH.start w noBlocks
  refine tr_seq (fun K1 hK1 => ?_)
  -- region 0: span.go:82
  refine tr_region ?_
  refine tr_val (ov_assign rfl rfl) rfl rfl rfl ?_
  refine tr_val (ov_assign rfl rfl) rfl rfl rfl ?_
  refine tr_nil (hK1 _ _ (TrC.keep [5, 4, 0, 1] ?_))
  show TrC _ _ _ _ [(5, _), (4, _), (0, _), (1, _)] _ _
  refine tr_seq (fun K2 hK2 => ?_)
  refine tr_seq (fun K3 hK3 => ?_)
  -- region 1: span.go:83
  refine tr_region ?_
  refine tr_val (ov_move rfl rfl) rfl rfl rfl ?_
  refine tr_call (Row_c A c L _ (H.rd0 hR) hL) rfl rfl rfl Try.call38 rfl rfl rfl ?_
  rintro _ w1 ⟨rfl, HC⟩
  have H := H.call0n HC
  refine tr_val (ov_neq rfl rfl rfl) rfl rfl rfl ?_
  refine tr_val (ov_move rfl rfl) rfl rfl rfl ?_
  first | refine tr_split (t := 12) rfl (fun s12 => ?_) (fun s12 => ?_) | refine tr_splitb (t := 12) rfl (fun s12 => ?_) (fun s12 => ?_)
  · skip
    refine tr_pass rfl rfl rfl ?_
    refine tr_pass rfl rfl rfl ?_
    refine tr_val (ov_pick (vb := undef) rfl rfl rfl rfl) rfl rfl rfl ?_
    refine tr_nil (hK3 _ _ (TrC.keep [15, 5, 4, 0, 1] ?_))
    show TrC _ _ _ _ [(15, _), (5, _), (4, _), (0, _), (1, _)] _ _
    refine tr_cond_t rfl rfl ?_
    refine tr_seq (fun K4 hK4 => ?_)
    -- region 2: span.go:84
    refine tr_region ?_
    refine tr_val (ov_assign rfl rfl) rfl rfl rfl ?_
    refine tr_val (ov_assign rfl rfl) rfl rfl rfl ?_
    refine tr_nil (hK4 _ _ (TrC.keep [5, 4, 15, 0, 1] ?_))
    show TrC _ _ _ _ [(5, _), (4, _), (15, _), (0, _), (1, _)] _ _
    refine tr_ret (post_ret2 (.inr rfl) rfl rfl rfl ?_)
    rw [show nthV L n = none by unfold nthV; rw [if_neg (by omega)]]; exact ⟨rfl, H⟩
  · skip
    refine tr_val (ov_move rfl rfl) rfl rfl rfl ?_
    refine tr_val (ov_lss rfl rfl rfl) rfl rfl rfl ?_
    refine tr_val (ov_pick_f (va := undef) rfl rfl rfl rfl) rfl rfl rfl ?_
    refine tr_nil (hK3 _ _ (TrC.keep [15, 5, 4, 0, 1] ?_))
    show TrC _ _ _ _ [(15, _), (5, _), (4, _), (0, _), (1, _)] _ _
    first | refine tr_cond rfl (fun c15 => ?_) (fun c15 => ?_) | refine tr_condb rfl (fun c15 => ?_) (fun c15 => ?_)
    · skip
      refine tr_seq (fun K5 hK5 => ?_)
      -- region 2: span.go:84
      refine tr_region ?_
      refine tr_val (ov_assign rfl rfl) rfl rfl rfl ?_
      refine tr_val (ov_assign rfl rfl) rfl rfl rfl ?_
      refine tr_nil (hK5 _ _ (TrC.keep [5, 4, 15, 0, 1] ?_))
      show TrC _ _ _ _ [(5, _), (4, _), (15, _), (0, _), (1, _)] _ _
      refine tr_ret (post_ret2 (.inr rfl) rfl rfl rfl ?_)
      rw [show nthV L n = none by unfold nthV; rw [if_neg (by omega)]]; exact ⟨rfl, H⟩
    · skip
      refine tr_skip (hK2 _ _ (TrC.keep [15, 5, 4, 0, 1] ?_))
      show TrC _ _ _ _ [(15, _), (5, _), (4, _), (0, _), (1, _)] _ _
      refine tr_seq (fun K6 hK6 => ?_)
      refine tr_seq (fun K7 hK7 => ?_)
      -- region 3: span.go:86
      have hg := (rowV_zero (L := L) (by omega)).2
      refine tr_region ?_
      refine tr_val (ov_move rfl rfl) rfl rfl rfl ?_
      refine tr_val (ov_len rfl rfl Try.underlying33 rfl) rfl rfl rfl ?_
      refine tr_val (ov_move rfl rfl) rfl rfl rfl ?_
      refine tr_nil (hK7 _ _ (TrC.keep [18, 17, 16, 15, 5, 4, 0, 1] ?_))
      show TrC _ _ _ _ [(18, _), (17, _), (16, _), (15, _), (5, _), (4, _), (0, _), (1, _)] _ _
      refine tr_block ?_
      refine tr_loop_ (X := Int × Int) [17, 16, 15, 0] (fun ⟨i, m⟩ => [(18, .int .i64 i), (1, .int .i64 m)]) (fun ⟨i, m⟩ w' => 0 ≤ i ∧ i ≤ L.length ∧ 0 ≤ m ∧ m ≤ n ∧ nthL (L.drop i.toNat) m = nthL L n ∧ SH w noBlocks [] w') (fun ⟨i, m⟩ => (L.length - i).toNat) (⟨0, n⟩) (Sub.cons rfl (Sub.cons rfl (Sub.cons rfl (Sub.cons rfl (Sub.cons rfl (Sub.cons rfl Sub.nil)))))) (⟨by omega, by omega, by omega, by omega, rfl, H⟩) ?_
      rintro ⟨i, m⟩ w2 ⟨hi0, hi1, hm0, hm1, hx, H⟩ K8 hK8
      show TrC _ _ _ _ [(18, _), (1, _), (17, _), (16, _), (15, _), (0, _)] _ _
      refine tr_seq (fun K9 hK9 => ?_)
      -- region 4: span.go:86
      refine tr_region ?_
      refine tr_val (ov_lss rfl rfl rfl) rfl rfl rfl ?_
      refine tr_nil (hK9 _ _ (TrC.keep [19, 18, 1, 17, 16, 15, 0] ?_))
      show TrC _ _ _ _ [(19, _), (18, _), (1, _), (17, _), (16, _), (15, _), (0, _)] _ _
      refine tr_seq (fun K10 hK10 => ?_)
      first | refine tr_cond rfl (fun c19 => ?_) (fun c19 => ?_) | refine tr_condb rfl (fun c19 => ?_) (fun c19 => ?_)
      · skip
        refine tr_skip (hK10 _ _ (TrC.keep [19, 18, 1, 17, 16, 15, 0] ?_))
        show TrC _ _ _ _ [(19, _), (18, _), (1, _), (17, _), (16, _), (15, _), (0, _)] _ _
        refine tr_seq (fun K11 hK11 => ?_)
        refine tr_block ?_
        refine tr_seq (fun K12 hK12 => ?_)
        -- region 5: span.go:86
        have hs := (good_right hg _ (gt_mem (L := L) hi0 (by omega))).1
        unfold RightP at hs
        refine tr_region ?_
        refine tr_val (ov_indexAddrR (H.rd0 hR) rfl Try.underlying33 (Try.sizeOf40 _) rfl rfl (by omega) (by omega)) rfl rfl rfl ?_
        refine tr_val (ld_Span (H.rd0 hR) rfl (Try.isAgg40 _) (Try.sizeOf40 _) rfl (by omega) (by omega)) rfl rfl rfl ?_
        refine tr_alloc H rfl (Try.zeroValue40 _) rfl rfl rfl rfl ?_
        intro b1 w3 hb1 H
        first | (refine tr_storeW H.get0 rfl (Try.sizeOf40 _) rfl rfl rfl rfl rfl rfl rfl rfl ?_; intro w4 U; have H := H.upd0 U; clear U) | (refine tr_storeW H.get1 rfl (Try.sizeOf40 _) rfl rfl rfl rfl rfl rfl rfl rfl ?_; intro w4 U; have H := H.upd1 U; clear U) | (refine tr_storeW H.get2 rfl (Try.sizeOf40 _) rfl rfl rfl rfl rfl rfl rfl rfl ?_; intro w4 U; have H := H.upd2 U; clear U) | (refine tr_storeW H.get3 rfl (Try.sizeOf40 _) rfl rfl rfl rfl rfl rfl rfl rfl ?_; intro w4 U; have H := H.upd3 U; clear U) | (refine tr_storeW H.get4 rfl (Try.sizeOf40 _) rfl rfl rfl rfl rfl rfl rfl rfl ?_; intro w4 U; have H := H.upd4 U; clear U) | (refine tr_storeW H.get5 rfl (Try.sizeOf40 _) rfl rfl rfl rfl rfl rfl rfl rfl ?_; intro w4 U; have H := H.upd5 U; clear U)
        refine tr_nil (hK12 _ _ (TrC.keep [7, 19, 18, 1, 17, 16, 15, 0] ?_))
        show TrC _ _ _ _ [(7, _), (19, _), (18, _), (1, _), (17, _), (16, _), (15, _), (0, _)] _ _
        refine tr_seq (fun K13 hK13 => ?_)
        -- region 6: span.go:87
        refine tr_region ?_
        refine tr_val (ov_fieldAddr rfl Try.underlying40 rfl (Try.sizeOf2 _) (by decide) rfl) rfl rfl rfl ?_
        first | refine tr_val (ov_load_blk H.get0 rfl (Try.isAgg2 _) rfl rfl rfl) rfl rfl rfl ?_ | refine tr_val (ov_load_blk H.get1 rfl (Try.isAgg2 _) rfl rfl rfl) rfl rfl rfl ?_ | refine tr_val (ov_load_blk H.get2 rfl (Try.isAgg2 _) rfl rfl rfl) rfl rfl rfl ?_ | refine tr_val (ov_load_blk H.get3 rfl (Try.isAgg2 _) rfl rfl rfl) rfl rfl rfl ?_ | refine tr_val (ov_load_blk H.get4 rfl (Try.isAgg2 _) rfl rfl rfl) rfl rfl rfl ?_ | refine tr_val (ov_load_blk H.get5 rfl (Try.isAgg2 _) rfl rfl rfl) rfl rfl rfl ?_
        refine tr_val (ov_fieldAddr rfl Try.underlying40 rfl (Try.sizeOf2 _) (by decide) rfl) rfl rfl rfl ?_
        first | refine tr_val (ov_load_blk H.get0 rfl (Try.isAgg2 _) rfl rfl rfl) rfl rfl rfl ?_ | refine tr_val (ov_load_blk H.get1 rfl (Try.isAgg2 _) rfl rfl rfl) rfl rfl rfl ?_ | refine tr_val (ov_load_blk H.get2 rfl (Try.isAgg2 _) rfl rfl rfl) rfl rfl rfl ?_ | refine tr_val (ov_load_blk H.get3 rfl (Try.isAgg2 _) rfl rfl rfl) rfl rfl rfl ?_ | refine tr_val (ov_load_blk H.get4 rfl (Try.isAgg2 _) rfl rfl rfl) rfl rfl rfl ?_ | refine tr_val (ov_load_blk H.get5 rfl (Try.isAgg2 _) rfl rfl rfl) rfl rfl rfl ?_
        refine tr_val (ov_sub rfl rfl rfl (w64 (by omega))) rfl rfl rfl ?_
        refine tr_val (ov_assign rfl rfl) rfl rfl rfl ?_
        refine tr_nil (hK13 _ _ (TrC.keep [8, 7, 19, 18, 1, 17, 16, 15, 0] ?_))
        show TrC _ _ _ _ [(8, _), (7, _), (19, _), (18, _), (1, _), (17, _), (16, _), (15, _), (0, _)] _ _
        refine tr_seq (fun K14 hK14 => ?_)
        -- region 7: span.go:87
        refine tr_region ?_
        refine tr_val (ov_move rfl rfl) rfl rfl rfl ?_
        refine tr_val (ov_move rfl rfl) rfl rfl rfl ?_
        refine tr_val (ov_lss rfl rfl rfl) rfl rfl rfl ?_
        refine tr_nil (hK14 _ _ (TrC.keep [29, 8, 7, 19, 18, 1, 17, 16, 15, 0] ?_))
        show TrC _ _ _ _ [(29, _), (8, _), (7, _), (19, _), (18, _), (1, _), (17, _), (16, _), (15, _), (0, _)] _ _
        first | refine tr_cond rfl (fun c29 => ?_) (fun c29 => ?_) | refine tr_condb rfl (fun c29 => ?_) (fun c29 => ?_)
        · skip
          refine tr_seq (fun K15 hK15 => ?_)
          -- region 8: span.go:88
          refine tr_region ?_
          refine tr_val (ov_fieldAddr rfl Try.underlying40 rfl (Try.sizeOf2 _) (by decide) rfl) rfl rfl rfl ?_
          first | refine tr_val (ov_load_blk H.get0 rfl (Try.isAgg2 _) rfl rfl rfl) rfl rfl rfl ?_ | refine tr_val (ov_load_blk H.get1 rfl (Try.isAgg2 _) rfl rfl rfl) rfl rfl rfl ?_ | refine tr_val (ov_load_blk H.get2 rfl (Try.isAgg2 _) rfl rfl rfl) rfl rfl rfl ?_ | refine tr_val (ov_load_blk H.get3 rfl (Try.isAgg2 _) rfl rfl rfl) rfl rfl rfl ?_ | refine tr_val (ov_load_blk H.get4 rfl (Try.isAgg2 _) rfl rfl rfl) rfl rfl rfl ?_ | refine tr_val (ov_load_blk H.get5 rfl (Try.isAgg2 _) rfl rfl rfl) rfl rfl rfl ?_
          refine tr_val (ov_move rfl rfl) rfl rfl rfl ?_
          refine tr_val (ov_add rfl rfl rfl (w64 (by omega))) rfl rfl rfl ?_
          refine tr_val (ov_assign rfl rfl) rfl rfl rfl ?_
          refine tr_val (ov_assign rfl rfl) rfl rfl rfl ?_
          refine tr_nil (hK15 _ _ (TrC.keep [5, 4, 29, 8, 7, 19, 18, 1, 17, 16, 15, 0] ?_))
          show TrC _ _ _ _ [(5, _), (4, _), (29, _), (8, _), (7, _), (19, _), (18, _), (1, _), (17, _), (16, _), (15, _), (0, _)] _ _
          refine tr_ret (post_ret2 (.inr rfl) rfl rfl rfl ?_)
          rw [show nthV L n = some ((gt L i).1 + m) by unfold nthV; rw [if_pos (by omega), ← hx, nthL_pos hi0 (by omega) (by omega)]]; exact ⟨rfl, H.drop0⟩
        · skip
          -- region 9: span.go:90
          refine tr_region ?_
          refine tr_val (ov_move rfl rfl) rfl rfl rfl ?_
          refine tr_val (ov_move rfl rfl) rfl rfl rfl ?_
          refine tr_val (ov_sub rfl rfl rfl (w64 (by omega))) rfl rfl rfl ?_
          refine tr_val (ov_assign rfl rfl) rfl rfl rfl ?_
          refine tr_nil (hK11 _ _ (TrC.keep [1, 29, 8, 7, 19, 18, 17, 16, 15, 0] ?_))
          show TrC _ _ _ _ [(1, _), (29, _), (8, _), (7, _), (19, _), (18, _), (17, _), (16, _), (15, _), (0, _)] _ _
          -- region 10: span.go:86
          refine tr_region ?_
          refine tr_val (ov_add rfl rfl rfl (w64 (by omega))) rfl rfl rfl ?_
          refine tr_val (ov_move rfl rfl) rfl rfl rfl ?_
          skip
          exact tr_nil (hK8 (⟨i + 1, m - ((gt L i).2 - (gt L i).1)⟩) _ _ (⟨by omega, by omega, by omega, by omega, by rw [← hx, nthL_neg hi0 (by omega) (by omega)], H.drop0⟩) (by first | omega | (dsimp only; omega)) (Sub.cons rfl (Sub.cons rfl (Sub.cons rfl (Sub.cons rfl (Sub.cons rfl (Sub.cons rfl Sub.nil)))))))
      · skip
        refine tr_exit (hK6 _ _ (TrC.keep [19, 18, 1, 17, 16, 15, 0] ?_))
        show TrC _ _ _ _ [(19, _), (18, _), (1, _), (17, _), (16, _), (15, _), (0, _)] _ _
        refine tr_seq (fun K16 hK16 => ?_)
        -- region 11: span.go:93
        refine tr_region ?_
        refine tr_val (ov_assign rfl rfl) rfl rfl rfl ?_
        refine tr_val (ov_assign rfl rfl) rfl rfl rfl ?_
        refine tr_nil (hK16 _ _ (TrC.keep [5, 4, 19, 18, 1, 17, 16, 15, 0] ?_))
        show TrC _ _ _ _ [(5, _), (4, _), (19, _), (18, _), (1, _), (17, _), (16, _), (15, _), (0, _)] _ _
        refine tr_ret (post_ret2 (.inr rfl) rfl rfl rfl ?_)
        rw [show nthV L n = none by unfold nthV; rw [if_pos (by omega), ← hx, nthL_end (by omega)]]; exact ⟨rfl, H⟩

/-! curfew/span.Same$1 -/
set_option maxRecDepth 20000 in
theorem Same1_c (s t : Sp) (w : World) : Does Try.prog 68 #[.agg #[.int .i64 s.1, .int .i64 s.2], .agg #[.int .i64 t.1, .int .i64 t.2]] w (fun v w' => v = .bool (decide (s = t)) ∧ SH w noBlocks [] w') := by
  refine does_enter2 Try.func68 rfl Try.ntmps68 rfl ?_
  have H := SH.start w noBlocks
  refine tr_seq (fun K1 hK1 => ?_)
  -- region 0: span.go:30
  refine tr_region ?_
  refine tr_box H rfl rfl rfl rfl rfl rfl ?_
  intro b1 w1 hb1 H
  refine tr_box H rfl rfl rfl rfl rfl rfl ?_
  intro b2 w2 hb2 H
  refine tr_val (ov_assign rfl rfl) rfl rfl rfl ?_
  refine tr_nil (hK1 _ _ (TrC.keep [4, 3, 2] ?_))
  show TrC _ _ _ _ [(4, _), (3, _), (2, _)] _ _
  refine tr_seq (fun K2 hK2 => ?_)
  -- region 1: span.go:30
  refine tr_region ?_
  first | refine tr_val (ov_load_blkN H.get0 rfl (Try.isAgg40 _) (Try.sizeOf40 _) rfl rfl rfl) rfl rfl rfl ?_ | refine tr_val (ov_load_blkN H.get1 rfl (Try.isAgg40 _) (Try.sizeOf40 _) rfl rfl rfl) rfl rfl rfl ?_ | refine tr_val (ov_load_blkN H.get2 rfl (Try.isAgg40 _) (Try.sizeOf40 _) rfl rfl rfl) rfl rfl rfl ?_ | refine tr_val (ov_load_blkN H.get3 rfl (Try.isAgg40 _) (Try.sizeOf40 _) rfl rfl rfl) rfl rfl rfl ?_ | refine tr_val (ov_load_blkN H.get4 rfl (Try.isAgg40 _) (Try.sizeOf40 _) rfl rfl rfl) rfl rfl rfl ?_ | refine tr_val (ov_load_blkN H.get5 rfl (Try.isAgg40 _) (Try.sizeOf40 _) rfl rfl rfl) rfl rfl rfl ?_
  first | refine tr_val (ov_load_blkN H.get0 rfl (Try.isAgg40 _) (Try.sizeOf40 _) rfl rfl rfl) rfl rfl rfl ?_ | refine tr_val (ov_load_blkN H.get1 rfl (Try.isAgg40 _) (Try.sizeOf40 _) rfl rfl rfl) rfl rfl rfl ?_ | refine tr_val (ov_load_blkN H.get2 rfl (Try.isAgg40 _) (Try.sizeOf40 _) rfl rfl rfl) rfl rfl rfl ?_ | refine tr_val (ov_load_blkN H.get3 rfl (Try.isAgg40 _) (Try.sizeOf40 _) rfl rfl rfl) rfl rfl rfl ?_ | refine tr_val (ov_load_blkN H.get4 rfl (Try.isAgg40 _) (Try.sizeOf40 _) rfl rfl rfl) rfl rfl rfl ?_ | refine tr_val (ov_load_blkN H.get5 rfl (Try.isAgg40 _) (Try.sizeOf40 _) rfl rfl rfl) rfl rfl rfl ?_
  refine tr_val (ov_eqSp rfl rfl rfl) rfl rfl rfl ?_
  refine tr_val (ov_assign rfl rfl) rfl rfl rfl ?_
  refine tr_nil (hK2 _ _ (TrC.keep [4] ?_))
  show TrC _ _ _ _ [(4, _)] _ _
  refine tr_ret (post_ret1 (.inr rfl) rfl rfl ?_)
  exact ⟨rfl, H.drop0.drop0⟩

/-! slices.EqualFunc[[]curfew/api.Span,[]curfew/api.Span,curfew/api.Span,curfew/api.Span] -/
set_option maxRecDepth 20000 in
theorem EqualFunc_c (A : Option Addr) (c : Nat) (L : List Sp) (w : World) (hR : Rd w A 2 (L.map encSpan)) (hL : L.length ≤ 4294967296) (A2 : Option Addr) (c2 : Nat) (M : List Sp) (hR2 : Rd w A2 2 (M.map encSpan)) (hM : M.length ≤ 4294967296) : Does Try.prog 67 #[.slice A L.length c, .slice A2 M.length c2, .func (.func 68) #[] #[]] w (fun v w' => v = .bool (decide (L = M)) ∧ SH w noBlocks [] w') := by
  refine does_enter3 Try.func67 rfl Try.ntmps67 rfl ?_
  have H := SH.start w noBlocks
  refine tr_seq (fun K1 hK1 => ?_)
  -- region 0: slices.go:37
  refine tr_region ?_
  refine tr_val (ov_assign rfl rfl) rfl rfl rfl ?_
  refine tr_nil (hK1 _ _ (TrC.keep [6, 0, 1, 2] ?_))
  show TrC _ _ _ _ [(6, _), (0, _), (1, _), (2, _)] _ _
  refine tr_seq (fun K2 hK2 => ?_)
  refine tr_seq (fun K3 hK3 => ?_)
  -- region 1: slices.go:38
  refine tr_region ?_
  refine tr_val (ov_move rfl rfl) rfl rfl rfl ?_
  refine tr_val (ov_len rfl rfl Try.underlying33 rfl) rfl rfl rfl ?_
  refine tr_val (ov_move rfl rfl) rfl rfl rfl ?_
  refine tr_val (ov_len rfl rfl Try.underlying33 rfl) rfl rfl rfl ?_
  refine tr_val (ov_neq rfl rfl rfl) rfl rfl rfl ?_
  refine tr_nil (hK3 _ _ (TrC.keep [14, 6, 0, 1, 2] ?_))
  show TrC _ _ _ _ [(14, _), (6, _), (0, _), (1, _), (2, _)] _ _
  first | refine tr_cond rfl (fun c14 => ?_) (fun c14 => ?_) | refine tr_condb rfl (fun c14 => ?_) (fun c14 => ?_)
  · skip
    refine tr_seq (fun K4 hK4 => ?_)
    -- region 2: slices.go:39
    refine tr_region ?_
    refine tr_val (ov_assign rfl rfl) rfl rfl rfl ?_
    refine tr_nil (hK4 _ _ (TrC.keep [6, 14, 0, 1, 2] ?_))
    show TrC _ _ _ _ [(6, _), (14, _), (0, _), (1, _), (2, _)] _ _
    refine tr_ret (post_ret1 (.inr rfl) rfl rfl ?_)
    exact ⟨congrArg Value.bool (eqF (fun h => by subst h; omega)), H⟩
  · skip
    refine tr_skip (hK2 _ _ (TrC.keep [14, 6, 0, 1, 2] ?_))
    show TrC _ _ _ _ [(14, _), (6, _), (0, _), (1, _), (2, _)] _ _
    refine tr_seq (fun K5 hK5 => ?_)
    refine tr_seq (fun K6 hK6 => ?_)
    -- region 3: slices.go:41
    refine tr_region ?_
    refine tr_val (ov_move rfl rfl) rfl rfl rfl ?_
    refine tr_val (ov_len rfl rfl Try.underlying33 rfl) rfl rfl rfl ?_
    refine tr_val (ov_move rfl rfl) rfl rfl rfl ?_
    refine tr_nil (hK6 _ _ (TrC.keep [17, 16, 15, 14, 6, 0, 1, 2] ?_))
    show TrC _ _ _ _ [(17, _), (16, _), (15, _), (14, _), (6, _), (0, _), (1, _), (2, _)] _ _
    refine tr_block ?_
    refine tr_loop_ (X := Int) [16, 15, 14, 0, 1, 2] (fun i => [(17, .int .i64 i)]) (fun i w' => 0 ≤ i ∧ i ≤ L.length ∧ (L.drop i.toNat = M.drop i.toNat ↔ L = M) ∧ SH w noBlocks [] w') (fun i => (L.length - i).toNat) (0) (Sub.cons rfl (Sub.cons rfl (Sub.cons rfl (Sub.cons rfl (Sub.cons rfl (Sub.cons rfl (Sub.cons rfl Sub.nil))))))) (⟨by omega, by omega, by simp, H⟩) ?_
    rintro i w1 ⟨hi0, hi1, hx, H⟩ K7 hK7
    show TrC _ _ _ _ [(17, _), (16, _), (15, _), (14, _), (0, _), (1, _), (2, _)] _ _
    refine tr_seq (fun K8 hK8 => ?_)
    -- region 4: slices.go:41
    refine tr_region ?_
    refine tr_val (ov_lss rfl rfl rfl) rfl rfl rfl ?_
    refine tr_nil (hK8 _ _ (TrC.keep [18, 17, 16, 15, 14, 0, 1, 2] ?_))
    show TrC _ _ _ _ [(18, _), (17, _), (16, _), (15, _), (14, _), (0, _), (1, _), (2, _)] _ _
    refine tr_seq (fun K9 hK9 => ?_)
    first | refine tr_cond rfl (fun c18 => ?_) (fun c18 => ?_) | refine tr_condb rfl (fun c18 => ?_) (fun c18 => ?_)
    · skip
      refine tr_skip (hK9 _ _ (TrC.keep [18, 17, 16, 15, 14, 0, 1, 2] ?_))
      show TrC _ _ _ _ [(18, _), (17, _), (16, _), (15, _), (14, _), (0, _), (1, _), (2, _)] _ _
      refine tr_seq (fun K10 hK10 => ?_)
      refine tr_block ?_
      refine tr_seq (fun K11 hK11 => ?_)
      -- region 5: slices.go:41
      refine tr_region ?_
      refine tr_val (ov_move rfl rfl) rfl rfl rfl ?_
      refine tr_val (ov_indexAddrR (H.rd0 hR) rfl Try.underlying33 (Try.sizeOf40 _) rfl rfl (by omega) (by omega)) rfl rfl rfl ?_
      refine tr_val (ld_Span (H.rd0 hR) rfl (Try.isAgg40 _) (Try.sizeOf40 _) rfl (by omega) (by omega)) rfl rfl rfl ?_
      refine tr_alloc H rfl (Try.zeroValue40 _) rfl rfl rfl rfl ?_
      intro b1 w2 hb1 H
      refine tr_val (ov_assign rfl rfl) rfl rfl rfl ?_
      first | (refine tr_storeW H.get0 rfl (Try.sizeOf40 _) rfl rfl rfl rfl rfl rfl rfl rfl ?_; intro w3 U; have H := H.upd0 U; clear U) | (refine tr_storeW H.get1 rfl (Try.sizeOf40 _) rfl rfl rfl rfl rfl rfl rfl rfl ?_; intro w3 U; have H := H.upd1 U; clear U) | (refine tr_storeW H.get2 rfl (Try.sizeOf40 _) rfl rfl rfl rfl rfl rfl rfl rfl ?_; intro w3 U; have H := H.upd2 U; clear U) | (refine tr_storeW H.get3 rfl (Try.sizeOf40 _) rfl rfl rfl rfl rfl rfl rfl rfl ?_; intro w3 U; have H := H.upd3 U; clear U) | (refine tr_storeW H.get4 rfl (Try.sizeOf40 _) rfl rfl rfl rfl rfl rfl rfl rfl ?_; intro w3 U; have H := H.upd4 U; clear U) | (refine tr_storeW H.get5 rfl (Try.sizeOf40 _) rfl rfl rfl rfl rfl rfl rfl rfl ?_; intro w3 U; have H := H.upd5 U; clear U)
      refine tr_nil (hK11 _ _ (TrC.keep [7, 8, 18, 17, 16, 15, 14, 0, 1, 2] ?_))
      show TrC _ _ _ _ [(7, _), (8, _), (18, _), (17, _), (16, _), (15, _), (14, _), (0, _), (1, _), (2, _)] _ _
      refine tr_seq (fun K12 hK12 => ?_)
      -- region 6: slices.go:42
      refine tr_region ?_
      refine tr_val (ov_move rfl rfl) rfl rfl rfl ?_
      refine tr_val (ov_move rfl rfl) rfl rfl rfl ?_
      refine tr_val (ov_indexAddrR (H.rd0 hR2) rfl Try.underlying33 (Try.sizeOf40 _) rfl rfl (by omega) (by omega)) rfl rfl rfl ?_
      refine tr_val (ld_Span (H.rd0 hR2) rfl (Try.isAgg40 _) (Try.sizeOf40 _) rfl (by omega) (by omega)) rfl rfl rfl ?_
      refine tr_alloc H rfl (Try.zeroValue40 _) rfl rfl rfl rfl ?_
      intro b2 w4 hb2 H
      first | (refine tr_storeW H.get0 rfl (Try.sizeOf40 _) rfl rfl rfl rfl rfl rfl rfl rfl ?_; intro w5 U; have H := H.upd0 U; clear U) | (refine tr_storeW H.get1 rfl (Try.sizeOf40 _) rfl rfl rfl rfl rfl rfl rfl rfl ?_; intro w5 U; have H := H.upd1 U; clear U) | (refine tr_storeW H.get2 rfl (Try.sizeOf40 _) rfl rfl rfl rfl rfl rfl rfl rfl ?_; intro w5 U; have H := H.upd2 U; clear U) | (refine tr_storeW H.get3 rfl (Try.sizeOf40 _) rfl rfl rfl rfl rfl rfl rfl rfl ?_; intro w5 U; have H := H.upd3 U; clear U) | (refine tr_storeW H.get4 rfl (Try.sizeOf40 _) rfl rfl rfl rfl rfl rfl rfl rfl ?_; intro w5 U; have H := H.upd4 U; clear U) | (refine tr_storeW H.get5 rfl (Try.sizeOf40 _) rfl rfl rfl rfl rfl rfl rfl rfl ?_; intro w5 U; have H := H.upd5 U; clear U)
      refine tr_nil (hK12 _ _ (TrC.keep [9, 8, 18, 17, 16, 15, 14, 0, 1, 2] ?_))
      show TrC _ _ _ _ [(9, _), (8, _), (18, _), (17, _), (16, _), (15, _), (14, _), (0, _), (1, _), (2, _)] _ _
      refine tr_seq (fun K13 hK13 => ?_)
      -- region 7: slices.go:43
      refine tr_region ?_
      refine tr_val (ov_move rfl rfl) rfl rfl rfl ?_
      first | refine tr_val (ov_load_blkN H.get0 rfl (Try.isAgg40 _) (Try.sizeOf40 _) rfl rfl rfl) rfl rfl rfl ?_ | refine tr_val (ov_load_blkN H.get1 rfl (Try.isAgg40 _) (Try.sizeOf40 _) rfl rfl rfl) rfl rfl rfl ?_ | refine tr_val (ov_load_blkN H.get2 rfl (Try.isAgg40 _) (Try.sizeOf40 _) rfl rfl rfl) rfl rfl rfl ?_ | refine tr_val (ov_load_blkN H.get3 rfl (Try.isAgg40 _) (Try.sizeOf40 _) rfl rfl rfl) rfl rfl rfl ?_ | refine tr_val (ov_load_blkN H.get4 rfl (Try.isAgg40 _) (Try.sizeOf40 _) rfl rfl rfl) rfl rfl rfl ?_ | refine tr_val (ov_load_blkN H.get5 rfl (Try.isAgg40 _) (Try.sizeOf40 _) rfl rfl rfl) rfl rfl rfl ?_
      first | refine tr_val (ov_load_blkN H.get0 rfl (Try.isAgg40 _) (Try.sizeOf40 _) rfl rfl rfl) rfl rfl rfl ?_ | refine tr_val (ov_load_blkN H.get1 rfl (Try.isAgg40 _) (Try.sizeOf40 _) rfl rfl rfl) rfl rfl rfl ?_ | refine tr_val (ov_load_blkN H.get2 rfl (Try.isAgg40 _) (Try.sizeOf40 _) rfl rfl rfl) rfl rfl rfl ?_ | refine tr_val (ov_load_blkN H.get3 rfl (Try.isAgg40 _) (Try.sizeOf40 _) rfl rfl rfl) rfl rfl rfl ?_ | refine tr_val (ov_load_blkN H.get4 rfl (Try.isAgg40 _) (Try.sizeOf40 _) rfl rfl rfl) rfl rfl rfl ?_ | refine tr_val (ov_load_blkN H.get5 rfl (Try.isAgg40 _) (Try.sizeOf40 _) rfl rfl rfl) rfl rfl rfl ?_
      refine tr_call (Same1_c (gt L i) (gt M i) _) rfl rfl rfl Try.call68 rfl rfl rfl ?_
      rintro _ w6 ⟨rfl, HC⟩
      have H := H.call0n HC
      first | refine tr_val (ov_not rfl rfl) rfl rfl rfl ?_ | refine tr_val (ov_notb rfl rfl) rfl rfl rfl ?_
      refine tr_nil (hK13 _ _ (TrC.keep [30, 9, 8, 18, 17, 16, 15, 14, 0, 1, 2] ?_))
      show TrC _ _ _ _ [(30, _), (9, _), (8, _), (18, _), (17, _), (16, _), (15, _), (14, _), (0, _), (1, _), (2, _)] _ _
      first | refine tr_cond rfl (fun c30 => ?_) (fun c30 => ?_) | refine tr_condb rfl (fun c30 => ?_) (fun c30 => ?_)
      · skip
        refine tr_seq (fun K14 hK14 => ?_)
        -- region 8: slices.go:44
        refine tr_region ?_
        refine tr_val (ov_assign rfl rfl) rfl rfl rfl ?_
        refine tr_nil (hK14 _ _ (TrC.keep [6, 30, 9, 8, 18, 17, 16, 15, 14, 0, 1, 2] ?_))
        show TrC _ _ _ _ [(6, _), (30, _), (9, _), (8, _), (18, _), (17, _), (16, _), (15, _), (14, _), (0, _), (1, _), (2, _)] _ _
        refine tr_ret (post_ret1 (.inr rfl) rfl rfl ?_)
        exact ⟨congrArg Value.bool (eqF (fun h => by subst h; simp at c30)), H.drop0.drop0⟩
      · skip
        refine tr_skip (hK10 _ _ (TrC.keep [30, 9, 8, 18, 17, 16, 15, 14, 0, 1, 2] ?_))
        show TrC _ _ _ _ [(30, _), (9, _), (8, _), (18, _), (17, _), (16, _), (15, _), (14, _), (0, _), (1, _), (2, _)] _ _
        -- region 9: slices.go:41
        refine tr_region ?_
        refine tr_val (ov_add rfl rfl rfl (w64 (by omega))) rfl rfl rfl ?_
        refine tr_val (ov_move rfl rfl) rfl rfl rfl ?_
        skip
        exact tr_nil (hK7 (i + 1) _ _ (⟨by omega, by omega, by rw [← hx, drops_step hi0 (by omega) (by omega)]; simp [show gt L i = gt M i by simpa using c30], H.drop0.drop0⟩) (by first | omega | (dsimp only; omega)) (Sub.cons rfl (Sub.cons rfl (Sub.cons rfl (Sub.cons rfl (Sub.cons rfl (Sub.cons rfl (Sub.cons rfl Sub.nil))))))))
    · skip
      refine tr_exit (hK5 _ _ (TrC.keep [18, 17, 16, 15, 14, 0, 1, 2] ?_))
      show TrC _ _ _ _ [(18, _), (17, _), (16, _), (15, _), (14, _), (0, _), (1, _), (2, _)] _ _
      refine tr_seq (fun K15 hK15 => ?_)
      -- region 10: slices.go:47
      refine tr_region ?_
      refine tr_val (ov_assign rfl rfl) rfl rfl rfl ?_
      refine tr_nil (hK15 _ _ (TrC.keep [6, 18, 17, 16, 15, 14, 0, 1, 2] ?_))
      show TrC _ _ _ _ [(6, _), (18, _), (17, _), (16, _), (15, _), (14, _), (0, _), (1, _), (2, _)] _ _
      refine tr_ret (post_ret1 (.inr rfl) rfl rfl ?_)
      exact ⟨congrArg Value.bool (eqT (hx.mp (by rw [drop_end (L := L) (by omega), drop_end (L := M) (by omega)]))), H⟩

/-! curfew/span.Same -/
set_option maxRecDepth 20000 in
theorem Same_c (A : Option Addr) (c : Nat) (L : List Sp) (w : World) (hR : Rd w A 2 (L.map encSpan)) (hL : L.length ≤ 4294967296) (A2 : Option Addr) (c2 : Nat) (M : List Sp) (hR2 : Rd w A2 2 (M.map encSpan)) (hM : M.length ≤ 4294967296) : Does Try.prog 45 #[.slice A L.length c, .slice A2 M.length c2] w (fun v w' => v = .bool (decide (L = M)) ∧ SH w noBlocks [] w') := by
  refine does_enter2 Try.func45 rfl Try.ntmps45 rfl ?_
  have H := SH.start w noBlocks
  refine tr_seq (fun K1 hK1 => ?_)
  -- region 0: span.go:29
  refine tr_region ?_
  refine tr_val (ov_assign rfl rfl) rfl rfl rfl ?_
  refine tr_nil (hK1 _ _ (TrC.keep [4, 0, 1] ?_))
  show TrC _ _ _ _ [(4, _), (0, _), (1, _)] _ _
  refine tr_seq (fun K2 hK2 => ?_)
  -- region 1: span.go:30
  refine tr_region ?_
  refine tr_val (ov_move rfl rfl) rfl rfl rfl ?_
  refine tr_val (ov_move rfl rfl) rfl rfl rfl ?_
  refine tr_call (EqualFunc_c A c L _ (H.rd0 hR) hL A2 c2 M (H.rd0 hR2) hM) rfl rfl rfl Try.call67 rfl rfl rfl ?_
  rintro _ w1 ⟨rfl, HC⟩
  have H := H.call0n HC
  refine tr_val (ov_assign rfl rfl) rfl rfl rfl ?_
  refine tr_nil (hK2 _ _ (TrC.keep [4] ?_))
  show TrC _ _ _ _ [(4, _)] _ _
  refine tr_ret (post_ret1 (.inr rfl) rfl rfl ?_)
  exact ⟨rfl, H⟩

/-! curfew/curfewref07.Same -/
set_option maxRecDepth 20000 in
theorem SameR_c (A : Option Addr) (c : Nat) (L : List Sp) (w : World) (hR : Rd w A 2 (L.map encSpan)) (hL : L.length ≤ 4294967296) (A2 : Option Addr) (c2 : Nat) (M : List Sp) (hR2 : Rd w A2 2 (M.map encSpan)) (hM : M.length ≤ 4294967296) : Does Try.prog 24 #[.slice A L.length c, .slice A2 M.length c2] w (fun v w' => v = .bool (decide (L = M)) ∧ SH w noBlocks [] w') := by
  refine does_enter2 Try.func24 rfl Try.ntmps24 rfl ?_
  have H := SH.start w noBlocks
  refine tr_seq (fun K1 hK1 => ?_)
  -- region 0: ref.go:30
  refine tr_region ?_
  refine tr_val (ov_assign rfl rfl) rfl rfl rfl ?_
  refine tr_nil (hK1 _ _ (TrC.keep [4, 0, 1] ?_))
  show TrC _ _ _ _ [(4, _), (0, _), (1, _)] _ _
  refine tr_seq (fun K2 hK2 => ?_)
  refine tr_seq (fun K3 hK3 => ?_)
  -- region 1: ref.go:31
  refine tr_region ?_
  refine tr_val (ov_move rfl rfl) rfl rfl rfl ?_
  refine tr_val (ov_len rfl rfl Try.underlying33 rfl) rfl rfl rfl ?_
  refine tr_val (ov_move rfl rfl) rfl rfl rfl ?_
  refine tr_val (ov_len rfl rfl Try.underlying33 rfl) rfl rfl rfl ?_
  refine tr_val (ov_neq rfl rfl rfl) rfl rfl rfl ?_
  refine tr_nil (hK3 _ _ (TrC.keep [10, 4, 0, 1] ?_))
  show TrC _ _ _ _ [(10, _), (4, _), (0, _), (1, _)] _ _
  first | refine tr_cond rfl (fun c10 => ?_) (fun c10 => ?_) | refine tr_condb rfl (fun c10 => ?_) (fun c10 => ?_)
  · skip
    refine tr_seq (fun K4 hK4 => ?_)
    -- region 2: ref.go:32
    refine tr_region ?_
    refine tr_val (ov_assign rfl rfl) rfl rfl rfl ?_
    refine tr_nil (hK4 _ _ (TrC.keep [4, 10, 0, 1] ?_))
    show TrC _ _ _ _ [(4, _), (10, _), (0, _), (1, _)] _ _
    refine tr_ret (post_ret1 (.inr rfl) rfl rfl ?_)
    exact ⟨congrArg Value.bool (eqF (fun h => by subst h; omega)), H⟩
  · skip
    refine tr_skip (hK2 _ _ (TrC.keep [10, 4, 0, 1] ?_))
    show TrC _ _ _ _ [(10, _), (4, _), (0, _), (1, _)] _ _
    refine tr_seq (fun K5 hK5 => ?_)
    refine tr_seq (fun K6 hK6 => ?_)
    -- region 3: ref.go:34
    refine tr_region ?_
    refine tr_val (ov_assign rfl rfl) rfl rfl rfl ?_
    refine tr_nil (hK6 _ _ (TrC.keep [5, 10, 4, 0, 1] ?_))
    show TrC _ _ _ _ [(5, _), (10, _), (4, _), (0, _), (1, _)] _ _
    refine tr_block ?_
    refine tr_loop_ (X := Int) [10, 0, 1] (fun i => [(5, .int .i64 i)]) (fun i w' => 0 ≤ i ∧ i ≤ L.length ∧ (L.drop i.toNat = M.drop i.toNat ↔ L = M) ∧ SH w noBlocks [] w') (fun i => (L.length - i).toNat) (0) (Sub.cons rfl (Sub.cons rfl (Sub.cons rfl (Sub.cons rfl Sub.nil)))) (⟨by omega, by omega, by simp, H⟩) ?_
    rintro i w1 ⟨hi0, hi1, hx, H⟩ K7 hK7
    show TrC _ _ _ _ [(5, _), (10, _), (0, _), (1, _)] _ _
    refine tr_seq (fun K8 hK8 => ?_)
    refine tr_seq (fun K9 hK9 => ?_)
    -- region 4: ref.go:34
    refine tr_region ?_
    refine tr_val (ov_move rfl rfl) rfl rfl rfl ?_
    refine tr_val (ov_move rfl rfl) rfl rfl rfl ?_
    refine tr_val (ov_len rfl rfl Try.underlying33 rfl) rfl rfl rfl ?_
    refine tr_val (ov_lss rfl rfl rfl) rfl rfl rfl ?_
    refine tr_nil (hK9 _ _ (TrC.keep [14, 5, 10, 0, 1] ?_))
    show TrC _ _ _ _ [(14, _), (5, _), (10, _), (0, _), (1, _)] _ _
    first | refine tr_cond rfl (fun c14 => ?_) (fun c14 => ?_) | refine tr_condb rfl (fun c14 => ?_) (fun c14 => ?_)
    · skip
      refine tr_skip (hK8 _ _ (TrC.keep [14, 5, 10, 0, 1] ?_))
      show TrC _ _ _ _ [(14, _), (5, _), (10, _), (0, _), (1, _)] _ _
      refine tr_seq (fun K10 hK10 => ?_)
      refine tr_block ?_
      refine tr_seq (fun K11 hK11 => ?_)
      -- region 6: ref.go:35
      refine tr_quiet mixed (by kernel_rfl) H ?_
      refine tq_val (fun _ H => ov_move rfl rfl) rfl rfl rfl ?_
      refine tq_val (fun _ H => ov_move rfl rfl) rfl rfl rfl ?_
      refine tq_val (fun _ H => ov_indexAddrR (H.rd0 hR) rfl Try.underlying33 (Try.sizeOf40 _) rfl rfl (by omega) (by omega)) rfl rfl rfl ?_
      refine tq_val (fun _ H => ld_Span (H.rd0 hR) rfl (Try.isAgg40 _) (Try.sizeOf40 _) rfl (by omega) (by omega)) rfl rfl rfl ?_
      refine tq_val (fun _ H => ov_move rfl rfl) rfl rfl rfl ?_
      refine tq_val (fun _ H => ov_move rfl rfl) rfl rfl rfl ?_
      refine tq_val (fun _ H => ov_indexAddrR (H.rd0 hR2) rfl Try.underlying33 (Try.sizeOf40 _) rfl rfl (by omega) (by omega)) rfl rfl rfl ?_
      refine tq_val (fun _ H => ld_Span (H.rd0 hR2) rfl (Try.isAgg40 _) (Try.sizeOf40 _) rfl (by omega) (by omega)) rfl rfl rfl ?_
      refine tq_val (fun _ H => ov_neSp rfl rfl rfl) rfl rfl rfl ?_
      refine tq_nil ?_
      intro w2 H
      refine hK11 _ _ (TrC.keep [25, 14, 5, 10, 0, 1] ?_)
      show TrC _ _ _ _ [(25, _), (14, _), (5, _), (10, _), (0, _), (1, _)] _ _
      first | refine tr_cond rfl (fun c25 => ?_) (fun c25 => ?_) | refine tr_condb rfl (fun c25 => ?_) (fun c25 => ?_)
      · skip
        refine tr_seq (fun K12 hK12 => ?_)
        -- region 7: ref.go:36
        refine tr_region ?_
        refine tr_val (ov_assign rfl rfl) rfl rfl rfl ?_
        refine tr_nil (hK12 _ _ (TrC.keep [4, 25, 14, 5, 10, 0, 1] ?_))
        show TrC _ _ _ _ [(4, _), (25, _), (14, _), (5, _), (10, _), (0, _), (1, _)] _ _
        refine tr_ret (post_ret1 (.inr rfl) rfl rfl ?_)
        exact ⟨congrArg Value.bool (eqF (fun h => by subst h; simp at c25)), H⟩
      · skip
        refine tr_skip (hK10 _ _ (TrC.keep [25, 14, 5, 10, 0, 1] ?_))
        show TrC _ _ _ _ [(25, _), (14, _), (5, _), (10, _), (0, _), (1, _)] _ _
        -- region 5: ref.go:34
        refine tr_region ?_
        refine tr_val (ov_move rfl rfl) rfl rfl rfl ?_
        refine tr_val (ov_add rfl rfl rfl (w64 (by omega))) rfl rfl rfl ?_
        refine tr_val (ov_assign rfl rfl) rfl rfl rfl ?_
        skip
        exact tr_nil (hK7 (i + 1) _ _ (⟨by omega, by omega, by rw [← hx, drops_step hi0 (by omega) (by omega)]; simp [show gt L i = gt M i by simpa using c25], H⟩) (by first | omega | (dsimp only; omega)) (Sub.cons rfl (Sub.cons rfl (Sub.cons rfl (Sub.cons rfl Sub.nil)))))
    · skip
      refine tr_exit (hK5 _ _ (TrC.keep [14, 5, 10, 0, 1] ?_))
      show TrC _ _ _ _ [(14, _), (5, _), (10, _), (0, _), (1, _)] _ _
      refine tr_seq (fun K13 hK13 => ?_)
      -- region 8: ref.go:39
      refine tr_region ?_
      refine tr_val (ov_assign rfl rfl) rfl rfl rfl ?_
      refine tr_nil (hK13 _ _ (TrC.keep [4, 14, 5, 10, 0, 1] ?_))
      show TrC _ _ _ _ [(4, _), (14, _), (5, _), (10, _), (0, _), (1, _)] _ _
      refine tr_ret (post_ret1 (.inr rfl) rfl rfl ?_)
      exact ⟨congrArg Value.bool (eqT (hx.mp (by rw [drop_end (L := L) (by omega), drop_end (L := M) (by omega)]))), H⟩

end Go.Proofs.Ytnmglobfdlnenaa
