/- Contracts of curfewref11; of Plain and Same. Conditions: none. -/
import Derived.Test.YtblipnjjgbggiaaRefP
import Derived.Test.YtblipnjjgbggiaaFacts
import Derived.Test.YtblipnjjgbggiaaStab
import Derived.Laws.StructEq
namespace Go.Proofs.Ytblipnjjgbggiaa
open Go Go.RowKit
set_option linter.unusedVariables false
set_option linter.unusedSimpArgs false

theorem fields30 : Try.prog.fieldsOf 30 = #[{ name := "ID", type := 28, offset := 0, embedded := false, tag := "", pkgPath := "", byteOffset := 0 }, { name := "Gen", type := 28, offset := 1, embedded := false, tag := "", pkgPath := "", byteOffset := 8 }, { name := "Due", type := 2, offset := 2, embedded := false, tag := "", pkgPath := "", byteOffset := 16 }] := by unfold Program.fieldsOf; rw [Try.underlying30]
theorem run_eq30 (a0 a1 a2 b0 b1 b2 : Int) (w : World) : (Op.equalIn 10000 30 (.agg #[.int .u64 a0, .int .u64 a1, .int .i64 a2]) (.agg #[.int .u64 b0, .int .u64 b1, .int .i64 b2])).run Try.prog w = .ok (decide (a0 = b0 ∧ a1 = b1 ∧ a2 = b2)) w := by
  rw [run_equalIn_struct w 9999 30 _ _ (by rw [fields30]; exact Try.underlying30) Try.stoodInHeld30, fields30]
  simp [Op.eqFields, part, Try.isAgg2, Try.isAgg28, run_equalIn_int w _ 2 .i64 .i64 _ _ Try.underlying2, run_equalIn_int w _ 28 .u64 .u64 _ _ Try.underlying28]
  by_cases h0 : a0 = b0 <;> by_cases h1 : a1 = b1 <;> by_cases h2 : a2 = b2 <;> simp [h0, h1, h2]
theorem Th_ext (s t : Thing) : s = t ↔ s.id = t.id ∧ s.gen = t.gen ∧ s.due = t.due := by
  constructor
  · rintro rfl; simp
  · intro h; cases s; cases t; simp_all
theorem ov_eqTh {l : List (Nat × Value)} {w : World} {o : Oper} {x y : Operand} {u : TypeId} {s t : Thing} (ho : o.op = .binOp .eql 30 x y u) (hx : ev l x = some (.agg #[.int .u64 s.id, .int .u64 s.gen, .int .i64 s.due])) (hy : ev l y = some (.agg #[.int .u64 t.id, .int .u64 t.gen, .int .i64 t.due])) : OpV Try.prog l w o (.bool (decide (s = t))) := by
  intro ρ k
  simp [execOp, ho, k _ _ hx, k _ _ hy, run_eqGuard_agg, Try.eqGuardType30, run_eql_struct, run_eq30]
  rw [Bool.eq_iff_iff]; simp [Th_ext]
theorem ov_neTh {l : List (Nat × Value)} {w : World} {o : Oper} {x y : Operand} {u : TypeId} {s t : Thing} (ho : o.op = .binOp .neq 30 x y u) (hx : ev l x = some (.agg #[.int .u64 s.id, .int .u64 s.gen, .int .i64 s.due])) (hy : ev l y = some (.agg #[.int .u64 t.id, .int .u64 t.gen, .int .i64 t.due])) : OpV Try.prog l w o (.bool (decide (¬ s = t))) := by
  intro ρ k
  simp [execOp, ho, k _ _ hx, k _ _ hy, run_eqGuard_agg, Try.eqGuardType30, run_neq_struct, run_eq30]
  rw [Bool.eq_iff_iff]; simp [Th_ext]

theorem fields59 : Try.prog.fieldsOf 59 = #[{ name := "ID", type := 28, offset := 0, embedded := false, tag := "", pkgPath := "", byteOffset := 0 }, { name := "Gen", type := 28, offset := 1, embedded := false, tag := "", pkgPath := "", byteOffset := 8 }, { name := "Due", type := 2, offset := 2, embedded := false, tag := "", pkgPath := "", byteOffset := 16 }, { name := "Slot", type := 3, offset := 3, embedded := false, tag := "", pkgPath := "", byteOffset := 24 }] := by unfold Program.fieldsOf; rw [Try.underlying59]
theorem run_eq59 (a0 a1 a2 a3 b0 b1 b2 b3 : Int) (w : World) : (Op.equalIn 10000 59 (.agg #[.int .u64 a0, .int .u64 a1, .int .i64 a2, .int .i64 a3]) (.agg #[.int .u64 b0, .int .u64 b1, .int .i64 b2, .int .i64 b3])).run Try.prog w = .ok (decide (a0 = b0 ∧ a1 = b1 ∧ a2 = b2 ∧ a3 = b3)) w := by
  rw [run_equalIn_struct w 9999 59 _ _ (by rw [fields59]; exact Try.underlying59) Try.stoodInHeld59, fields59]
  simp [Op.eqFields, part, Try.isAgg2, Try.isAgg28, Try.isAgg3, run_equalIn_int w _ 2 .i64 .i64 _ _ Try.underlying2, run_equalIn_int w _ 28 .u64 .u64 _ _ Try.underlying28, run_equalIn_int w _ 3 .i64 .i64 _ _ Try.underlying3]
  by_cases h0 : a0 = b0 <;> by_cases h1 : a1 = b1 <;> by_cases h2 : a2 = b2 <;> by_cases h3 : a3 = b3 <;> simp [h0, h1, h2, h3]
theorem RT_ext (s t : RThing) : s = t ↔ s.id = t.id ∧ s.gen = t.gen ∧ s.due = t.due ∧ s.slot = t.slot := by
  constructor
  · rintro rfl; simp
  · intro h; cases s; cases t; simp_all
theorem ov_eqRT {l : List (Nat × Value)} {w : World} {o : Oper} {x y : Operand} {u : TypeId} {s t : RThing} (ho : o.op = .binOp .eql 59 x y u) (hx : ev l x = some (.agg #[.int .u64 s.id, .int .u64 s.gen, .int .i64 s.due, .int .i64 s.slot])) (hy : ev l y = some (.agg #[.int .u64 t.id, .int .u64 t.gen, .int .i64 t.due, .int .i64 t.slot])) : OpV Try.prog l w o (.bool (decide (s = t))) := by
  intro ρ k
  simp [execOp, ho, k _ _ hx, k _ _ hy, run_eqGuard_agg, Try.eqGuardType59, run_eql_struct, run_eq59]
  rw [Bool.eq_iff_iff]; simp [RT_ext]
theorem ov_neRT {l : List (Nat × Value)} {w : World} {o : Oper} {x y : Operand} {u : TypeId} {s t : RThing} (ho : o.op = .binOp .neq 59 x y u) (hx : ev l x = some (.agg #[.int .u64 s.id, .int .u64 s.gen, .int .i64 s.due, .int .i64 s.slot])) (hy : ev l y = some (.agg #[.int .u64 t.id, .int .u64 t.gen, .int .i64 t.due, .int .i64 t.slot])) : OpV Try.prog l w o (.bool (decide (¬ s = t))) := by
  intro ρ k
  simp [execOp, ho, k _ _ hx, k _ _ hy, run_eqGuard_agg, Try.eqGuardType59, run_neq_struct, run_eq59]
  rw [Bool.eq_iff_iff]; simp [RT_ext]

/-! curfew/slots.Before -/
set_option maxRecDepth 20000 in
theorem BeforeT_c (s t : Thing) (w : World) : Does Try.prog 78 #[.agg #[.int .u64 s.id, .int .u64 s.gen, .int .i64 s.due], .agg #[.int .u64 t.id, .int .u64 t.gen, .int .i64 t.due]] w (fun v w' => v = .bool (decide (ltT s t)) ∧ SH w noBlocks [] w') := by
  refine does_enter2 Try.func78 rfl Try.ntmps78 rfl ?_
  have H := SH.start w noBlocks
  refine tr_seq (fun K1 hK1 => ?_)
  -- region 0: slots.go:27
  refine tr_region ?_
  refine tr_box H rfl rfl rfl rfl rfl rfl ?_
  intro b1 w1 hb1 H
  refine tr_box H rfl rfl rfl rfl rfl rfl ?_
  intro b2 w2 hb2 H
  refine tr_val (ov_assign rfl rfl) rfl rfl rfl ?_
  refine tr_nil (hK1 _ _ (TrC.keep [4, 3, 2] ?_))
  show TrC _ _ _ _ [(4, _), (3, _), (2, _)] _ _
  refine tr_seq (fun K2 hK2 => ?_)
  -- region 1: slots.go:27
  refine tr_region ?_
  refine tr_val (ov_load_blkN H.get1 rfl (Try.isAgg30 _) (Try.sizeOf30 _) rfl rfl rfl) rfl rfl rfl ?_
  refine tr_val (ov_load_blkN H.get0 rfl (Try.isAgg30 _) (Try.sizeOf30 _) rfl rfl rfl) rfl rfl rfl ?_
  refine tr_call (order_c s t _) rfl rfl rfl Try.call59 rfl rfl rfl ?_
  rintro _ w3 ⟨rfl, HC⟩
  have H := H.call0n HC
  refine tr_val (ov_lss rfl rfl rfl) rfl rfl rfl ?_
  refine tr_val (ov_assign rfl rfl) rfl rfl rfl ?_
  refine tr_nil (hK2 _ _ (TrC.keep [4] ?_))
  show TrC _ _ _ _ [(4, _)] _ _
  refine tr_ret (post_ret1 (.inr rfl) rfl rfl ?_)
  exact ⟨congrArg Value.bool (decide_eq_decide.mpr ord_lt), H.drop0.drop0⟩

/-! curfew/curfewref11.Before -/
set_option maxRecDepth 20000 in
theorem BeforeR_c (s t : RThing) (w : World) : Does Try.prog 73 #[.agg #[.int .u64 s.id, .int .u64 s.gen, .int .i64 s.due, .int .i64 s.slot], .agg #[.int .u64 t.id, .int .u64 t.gen, .int .i64 t.due, .int .i64 t.slot]] w (fun v w' => v = .bool (decide (ltR s t)) ∧ SH w noBlocks [] w') := by
  refine does_enter2 Try.func73 rfl Try.ntmps73 rfl ?_
  have H := SH.start w noBlocks
  refine tr_seq (fun K1 hK1 => ?_)
  -- region 0: ref.go:12
  refine tr_region ?_
  refine tr_box H rfl rfl rfl rfl rfl rfl ?_
  intro b1 w1 hb1 H
  refine tr_box H rfl rfl rfl rfl rfl rfl ?_
  intro b2 w2 hb2 H
  refine tr_val (ov_assign rfl rfl) rfl rfl rfl ?_
  refine tr_nil (hK1 _ _ (TrC.keep [4, 3, 2] ?_))
  show TrC _ _ _ _ [(4, _), (3, _), (2, _)] _ _
  refine tr_seq (fun K2 hK2 => ?_)
  -- region 1: ref.go:12
  refine tr_cut [] [(4, .bool (decide (ltR s t)))] (fun w' => SH w noBlocks [] w') (fun K3 hK3 => ?_) (fun w3 H => ?_)
  · skip
    refine tr_val (ov_fieldAddr rfl Try.underlying59 rfl (Try.sizeOf2 _) (by decide) rfl) rfl rfl rfl ?_
    refine tr_val (ov_load_blk H.get1 rfl (Try.isAgg2 _) rfl rfl rfl) rfl rfl rfl ?_
    refine tr_val (ov_fieldAddr rfl Try.underlying59 rfl (Try.sizeOf2 _) (by decide) rfl) rfl rfl rfl ?_
    refine tr_val (ov_load_blk H.get0 rfl (Try.isAgg2 _) rfl rfl rfl) rfl rfl rfl ?_
    refine tr_val (ov_lss rfl rfl rfl) rfl rfl rfl ?_
    refine tr_val (ov_move rfl rfl) rfl rfl rfl ?_
    refine tr_split (t := 10) rfl (fun s10 => ?_) (fun s10 => ?_)
    · skip
      refine tr_pass rfl rfl rfl ?_
      refine tr_pass rfl rfl rfl ?_
      refine tr_pass rfl rfl rfl ?_
      refine tr_pass rfl rfl rfl ?_
      refine tr_pass rfl rfl rfl ?_
      refine tr_pass rfl rfl rfl ?_
      refine tr_pass rfl rfl rfl ?_
      refine tr_pass rfl rfl rfl ?_
      refine tr_pass rfl rfl rfl ?_
      refine tr_pass rfl rfl rfl ?_
      refine tr_pass rfl rfl rfl ?_
      refine tr_pass rfl rfl rfl ?_
      refine tr_val (ov_pick (vb := undef) rfl rfl rfl rfl) rfl rfl rfl ?_
      refine tr_val (ov_assign rfl rfl) rfl rfl rfl ?_
      exact tr_nil (hK3 _ _ (Sub.consE rfl (congrArg Value.bool (by exact eqT (by unfold ltR; omega))) Sub.nil) (H.drop0.drop0))
    · skip
      refine tr_val (ov_fieldAddr rfl Try.underlying59 rfl (Try.sizeOf2 _) (by decide) rfl) rfl rfl rfl ?_
      refine tr_val (ov_load_blk H.get1 rfl (Try.isAgg2 _) rfl rfl rfl) rfl rfl rfl ?_
      refine tr_val (ov_fieldAddr rfl Try.underlying59 rfl (Try.sizeOf2 _) (by decide) rfl) rfl rfl rfl ?_
      refine tr_val (ov_load_blk H.get0 rfl (Try.isAgg2 _) rfl rfl rfl) rfl rfl rfl ?_
      refine tr_val (ov_eql rfl rfl rfl) rfl rfl rfl ?_
      refine tr_val (ov_move rfl rfl) rfl rfl rfl ?_
      refine tr_split (t := 16) rfl (fun s16 => ?_) (fun s16 => ?_)
      · skip
        refine tr_val (ov_fieldAddr rfl Try.underlying59 rfl (Try.sizeOf28 _) (by decide) rfl) rfl rfl rfl ?_
        refine tr_val (ov_load_blk H.get1 rfl (Try.isAgg28 _) rfl rfl rfl) rfl rfl rfl ?_
        refine tr_val (ov_fieldAddr rfl Try.underlying59 rfl (Try.sizeOf28 _) (by decide) rfl) rfl rfl rfl ?_
        refine tr_val (ov_load_blk H.get0 rfl (Try.isAgg28 _) rfl rfl rfl) rfl rfl rfl ?_
        refine tr_val (ov_lss rfl rfl rfl) rfl rfl rfl ?_
        refine tr_val (ov_pick (vb := undef) rfl rfl rfl rfl) rfl rfl rfl ?_
        refine tr_val (ov_pick_f (va := undef) rfl rfl rfl rfl) rfl rfl rfl ?_
        refine tr_val (ov_assign rfl rfl) rfl rfl rfl ?_
        exact tr_nil (hK3 _ _ (Sub.consE rfl (congrArg Value.bool (by exact eqI (by unfold ltR; omega))) Sub.nil) (H.drop0.drop0))
      · skip
        refine tr_pass rfl rfl rfl ?_
        refine tr_pass rfl rfl rfl ?_
        refine tr_pass rfl rfl rfl ?_
        refine tr_pass rfl rfl rfl ?_
        refine tr_pass rfl rfl rfl ?_
        refine tr_val (ov_pick_f (va := undef) rfl rfl rfl rfl) rfl rfl rfl ?_
        refine tr_val (ov_pick_f (va := undef) rfl rfl rfl rfl) rfl rfl rfl ?_
        refine tr_val (ov_assign rfl rfl) rfl rfl rfl ?_
        exact tr_nil (hK3 _ _ (Sub.consE rfl (congrArg Value.bool (by exact eqF (by unfold ltR; omega))) Sub.nil) (H.drop0.drop0))
  · skip
    refine hK2 _ _ (TrC.keep [4] ?_)
    show TrC _ _ _ _ [(4, _)] _ _
    refine tr_ret (post_ret1 (.inr rfl) rfl rfl ?_)
    exact ⟨rfl, H⟩

/-! curfew/curfewref11.Find -/
set_option maxRecDepth 20000 in
theorem FindR_c (B : Option Addr) (c : Nat) (W : List RThing) (w : World) (hR : Rd w B 4 (W.map encRThing)) (hW : W.length ≤ 65536) (id : Int) : Does Try.prog 67 #[.slice B W.length c, .int .u64 id] w (fun v w' => v = .int .i64 (idxR id W) ∧ SH w noBlocks [] w') := by
  refine does_enter2 Try.func67 rfl Try.ntmps67 rfl ?_
  have H := SH.start w noBlocks
  refine tr_seq (fun K1 hK1 => ?_)
  -- region 0: ref.go:30
  refine tr_region ?_
  refine tr_val (ov_assign rfl rfl) rfl rfl rfl ?_
  refine tr_nil (hK1 _ _ (TrC.keep [4, 0, 1] ?_))
  show TrC _ _ _ _ [(4, _), (0, _), (1, _)] _ _
  refine tr_seq (fun K2 hK2 => ?_)
  refine tr_seq (fun K3 hK3 => ?_)
  -- region 1: ref.go:31
  refine tr_region ?_
  refine tr_val (ov_assign rfl rfl) rfl rfl rfl ?_
  refine tr_nil (hK3 _ _ (TrC.keep [5, 4, 0, 1] ?_))
  show TrC _ _ _ _ [(5, _), (4, _), (0, _), (1, _)] _ _
  refine tr_block ?_
  refine tr_loop_ (X := Int) [0, 1] (fun i => [(5, .int .i64 i)]) (fun i w' => 0 ≤ i ∧ i ≤ W.length ∧ idxFrom (fun t : RThing => decide (t.id = id)) i (W.drop i.toNat) = idxR id W ∧ SH w noBlocks [] w') (fun i => (W.length - i).toNat) (0) (Sub.cons rfl (Sub.cons rfl (Sub.cons rfl Sub.nil))) (⟨by omega, by omega, rfl, H⟩) ?_
  rintro i w1 ⟨hi0, hi1, hx, H⟩ K4 hK4
  show TrC _ _ _ _ [(5, _), (0, _), (1, _)] _ _
  refine tr_seq (fun K5 hK5 => ?_)
  refine tr_seq (fun K6 hK6 => ?_)
  -- region 2: ref.go:31
  refine tr_region ?_
  refine tr_val (ov_move rfl rfl) rfl rfl rfl ?_
  refine tr_val (ov_move rfl rfl) rfl rfl rfl ?_
  refine tr_val (ov_len rfl rfl Try.underlying46 rfl) rfl rfl rfl ?_
  refine tr_val (ov_lss rfl rfl rfl) rfl rfl rfl ?_
  refine tr_nil (hK6 _ _ (TrC.keep [9, 5, 0, 1] ?_))
  show TrC _ _ _ _ [(9, _), (5, _), (0, _), (1, _)] _ _
  refine tr_cond rfl (fun c9 => ?_) (fun c9 => ?_)
  · skip
    refine tr_skip (hK5 _ _ (TrC.keep [9, 5, 0, 1] ?_))
    show TrC _ _ _ _ [(9, _), (5, _), (0, _), (1, _)] _ _
    refine tr_seq (fun K7 hK7 => ?_)
    refine tr_block ?_
    refine tr_seq (fun K8 hK8 => ?_)
    -- region 4: ref.go:32
    refine tr_region ?_
    refine tr_val (ov_move rfl rfl) rfl rfl rfl ?_
    refine tr_val (ov_move rfl rfl) rfl rfl rfl ?_
    refine tr_val (ov_indexAddrR (H.rd0 hR) rfl Try.underlying46 (Try.sizeOf59 _) rfl rfl (by omega) (by omega)) rfl rfl rfl ?_
    refine tr_val (ov_fieldAddr rfl Try.underlying59 rfl (Try.sizeOf28 _) (by decide) rfl) rfl rfl rfl ?_
    refine tr_val (ld_RThing_0 (H.rd0 hR) rfl (Try.isAgg28 _) rfl (by omega) (by omega)) rfl rfl rfl ?_
    refine tr_val (ov_move rfl rfl) rfl rfl rfl ?_
    refine tr_val (ov_eql rfl rfl rfl) rfl rfl rfl ?_
    refine tr_nil (hK8 _ _ (TrC.keep [18, 9, 5, 0, 1] ?_))
    show TrC _ _ _ _ [(18, _), (9, _), (5, _), (0, _), (1, _)] _ _
    refine tr_cond rfl (fun c18 => ?_) (fun c18 => ?_)
    · skip
      refine tr_seq (fun K9 hK9 => ?_)
      -- region 5: ref.go:33
      refine tr_region ?_
      refine tr_val (ov_move rfl rfl) rfl rfl rfl ?_
      refine tr_val (ov_assign rfl rfl) rfl rfl rfl ?_
      refine tr_nil (hK9 _ _ (TrC.keep [4, 18, 9, 5, 0, 1] ?_))
      show TrC _ _ _ _ [(4, _), (18, _), (9, _), (5, _), (0, _), (1, _)] _ _
      refine tr_ret (post_ret1 (.inr rfl) rfl rfl ?_)
      rw [← hx, idx_hit (p := fun t : RThing => decide (t.id = id)) hi0 (by omega) (decide_eq_true c18)]; exact ⟨rfl, H⟩
    · skip
      refine tr_skip (hK7 _ _ (TrC.keep [18, 9, 5, 0, 1] ?_))
      show TrC _ _ _ _ [(18, _), (9, _), (5, _), (0, _), (1, _)] _ _
      -- region 3: ref.go:31
      refine tr_region ?_
      refine tr_val (ov_move rfl rfl) rfl rfl rfl ?_
      refine tr_val (ov_add rfl rfl rfl (w64 (by omega))) rfl rfl rfl ?_
      refine tr_val (ov_assign rfl rfl) rfl rfl rfl ?_
      skip
      exact tr_nil (hK4 (i + 1) _ _ (⟨by omega, by omega, (idx_step (p := fun t : RThing => decide (t.id = id)) hi0 (by omega) (decide_eq_false c18)).symm.trans hx, H⟩) (by omega) (Sub.cons rfl (Sub.cons rfl (Sub.cons rfl Sub.nil))))
  · skip
    refine tr_exit (hK2 _ _ (TrC.keep [9, 5, 0, 1] ?_))
    show TrC _ _ _ _ [(9, _), (5, _), (0, _), (1, _)] _ _
    refine tr_seq (fun K10 hK10 => ?_)
    -- region 6: ref.go:36
    refine tr_region ?_
    refine tr_val (ov_assign rfl rfl) rfl rfl rfl ?_
    refine tr_nil (hK10 _ _ (TrC.keep [4, 9, 5, 0, 1] ?_))
    show TrC _ _ _ _ [(4, _), (9, _), (5, _), (0, _), (1, _)] _ _
    refine tr_ret (post_ret1 (.inr rfl) rfl rfl ?_)
    rw [← hx, idx_end (by omega)]; exact ⟨rfl, H⟩

theorem takeN {α : Type} {L : List α} {i : Int} (h0 : 0 ≤ i) (h1 : i ≤ L.length) : (L.take i.toNat).length = i.toNat := by rw [List.length_take]; omega
theorem dropN {α : Type} {L : List α} {i : Int} : (L.drop i.toNat).length = L.length - i.toNat := List.length_drop

/-! curfew/curfewref11.Without -/
set_option maxRecDepth 20000 in
theorem Without_c (B : Option Addr) (c : Nat) (W : List RThing) (w : World) (hR : Rd w B 4 (W.map encRThing)) (hW : W.length ≤ 65536) (hc : W.length ≤ c) (i : Int) (h0 : 0 ≤ i) (h1 : i < W.length) : Does Try.prog 104 #[.slice B W.length c, .int .i64 i] w (fun v w' => ∃ A' c', v = .slice A' ((W.take i.toNat ++ W.drop (i + 1).toNat)).length c' ∧ SH w noBlocks [vec A' c' 59 4 encRThing (W.take i.toNat ++ W.drop (i + 1).toNat)] w') := by
  refine does_enter2 Try.func104 rfl Try.ntmps104 rfl ?_
  have H := SH.start w noBlocks
  refine tr_seq (fun K1 hK1 => ?_)
  -- region 0: ref.go:40
  refine tr_region ?_
  refine tr_val (ov_assign rfl rfl) rfl rfl rfl ?_
  refine tr_nil (hK1 _ _ (TrC.keep [4, 0, 1] ?_))
  show TrC _ _ _ _ [(4, _), (0, _), (1, _)] _ _
  refine tr_seq (fun K2 hK2 => ?_)
  -- region 1: ref.go:41
  have e1 := takeN h0 (L := W) (by omega)
  have e2 := dropN (L := W) (i := i + 1)
  refine tr_region ?_
  refine tr_buildSlice0 H rfl Try.underlying46 info59 rfl rfl rfl ?_
  intro b1 w11 hb1 H
  have H := H.upd0 (upd_vec_of_blk (L := ([] : List RThing)) (enc := encRThing) (sz := 4) H.get0 rfl lenRThing (by simp))
  refine tr_val (ov_move rfl rfl) rfl rfl rfl ?_
  refine tr_val (ov_move rfl rfl) rfl rfl rfl ?_
  refine tr_val (ov_slice_hi rfl Try.underlying46 (Try.sizeOf59 _) rfl rfl (by omega) (by omega)) rfl rfl rfl ?_
  refine tr_append (M := W.take i.toNat) H.get0 (rd_take (H.rd0 hR) hc _) rfl rfl (by rw [e1]; rfl) Try.underlying46 info59 rfl rfl (show Try.t59.bytes = 32 from rfl) rfl (by decide) lenRThing oneRThing (by simp; omega) (by simp [maxLen]; omega) rfl rfl rfl ?_
  intro A2 c2 w20 U; have H := H.upd0 U; clear U
  rw [List.nil_append] at H ⊢
  refine tr_val (ov_assign rfl rfl) rfl rfl rfl ?_
  refine tr_nil (hK2 _ _ (TrC.keep [5, 4, 0, 1] ?_))
  show TrC _ _ _ _ [(5, _), (4, _), (0, _), (1, _)] _ _
  refine tr_seq (fun K3 hK3 => ?_)
  -- region 2: ref.go:42
  refine tr_region ?_
  refine tr_val (ov_move rfl rfl) rfl rfl rfl ?_
  refine tr_val (ov_move rfl rfl) rfl rfl rfl ?_
  refine tr_val (ov_move rfl rfl) rfl rfl rfl ?_
  refine tr_val (ov_add rfl rfl rfl (w64 (by omega))) rfl rfl rfl ?_
  refine tr_val (ov_slice_lo rfl Try.underlying46 (Try.sizeOf59 _) rfl rfl (by omega) (by omega)) rfl rfl rfl ?_
  refine tr_append (M := W.drop (i + 1).toNat) H.get0 (rd_drop (H.rd0 hR) hc _) rfl rfl (by rw [e2]; rfl) Try.underlying46 info59 rfl rfl (show Try.t59.bytes = 32 from rfl) rfl (by decide) lenRThing oneRThing (by rw [e1, e2]; omega) (by rw [e1, e2]; simp [maxLen]; omega) rfl rfl rfl ?_
  intro A3 c3 w30 U; have H := H.upd0 U; clear U
  refine tr_val (ov_assign rfl rfl) rfl rfl rfl ?_
  refine tr_nil (hK3 _ _ (TrC.keep [4, 0, 1] ?_))
  show TrC _ _ _ _ [(4, _), (0, _), (1, _)] _ _
  refine tr_ret (post_ret1 (.inr rfl) rfl rfl ?_)
  exact ⟨A3, c3, rfl, H⟩

/-! curfew/curfewref11.Sorted -/
set_option maxRecDepth 20000 in
theorem SortedR_c (B : Option Addr) (c : Nat) (W : List RThing) (w : World) (hR : Rd w B 4 (W.map encRThing)) (hW : W.length ≤ 65536) : Does Try.prog 105 #[.slice B W.length c] w (fun v w' => ∃ A' c', v = .slice A' ((sortR W)).length c' ∧ SH w noBlocks [vec A' c' 59 4 encRThing (sortR W)] w') := by
  refine does_enter1 Try.func105 rfl Try.ntmps105 rfl ?_
  have H := SH.start w noBlocks
  refine tr_seq (fun K1 hK1 => ?_)
  -- region 0: ref.go:15
  have H := H.addNil 59 4 encRThing
  refine tr_region ?_
  refine tr_val (ov_assign rfl rfl) rfl rfl rfl ?_
  refine tr_nil (hK1 _ _ (TrC.keep [2, 0] ?_))
  show TrC _ _ _ _ [(2, _), (0, _)] _ _
  refine tr_seq (fun K2 hK2 => ?_)
  -- region 1: ref.go:16
  refine tr_region ?_
  refine tr_val (ov_assign rfl rfl) rfl rfl rfl ?_
  refine tr_nil (hK2 _ _ (TrC.keep [3, 2, 0] ?_))
  show TrC _ _ _ _ [(3, _), (2, _), (0, _)] _ _
  refine tr_seq (fun K3 hK3 => ?_)
  refine tr_seq (fun K4 hK4 => ?_)
  -- region 2: ref.go:17
  refine tr_region ?_
  refine tr_val (ov_assign rfl rfl) rfl rfl rfl ?_
  refine tr_nil (hK4 _ _ (TrC.keep [4, 3, 2, 0] ?_))
  show TrC _ _ _ _ [(4, _), (3, _), (2, _), (0, _)] _ _
  refine tr_block ?_
  refine tr_loop_ (X := Int × Option Addr × Nat) [2, 0] (fun ⟨i, A1, c1⟩ => [(4, .int .i64 i), (3, .slice A1 (sortR (W.take i.toNat)).length c1)]) (fun ⟨i, A1, c1⟩ w' => 0 ≤ i ∧ i ≤ W.length ∧ SH w noBlocks [vec A1 c1 59 4 encRThing (sortR (W.take i.toNat))] w') (fun ⟨i, A1, c1⟩ => (W.length - i).toNat) (⟨0, none, 0⟩) (Sub.cons rfl (Sub.cons rfl (Sub.cons rfl (Sub.cons rfl Sub.nil)))) (⟨by omega, by omega, H⟩) ?_
  rintro ⟨i, A1, c1⟩ w1 ⟨hi0, hi1, H⟩ K5 hK5
  show TrC _ _ _ _ [(4, _), (3, _), (2, _), (0, _)] _ _
  refine tr_seq (fun K6 hK6 => ?_)
  refine tr_seq (fun K7 hK7 => ?_)
  -- region 3: ref.go:17
  refine tr_region ?_
  refine tr_val (ov_move rfl rfl) rfl rfl rfl ?_
  refine tr_val (ov_move rfl rfl) rfl rfl rfl ?_
  refine tr_val (ov_len rfl rfl Try.underlying46 rfl) rfl rfl rfl ?_
  refine tr_val (ov_lss rfl rfl rfl) rfl rfl rfl ?_
  refine tr_nil (hK7 _ _ (TrC.keep [10, 4, 3, 2, 0] ?_))
  show TrC _ _ _ _ [(10, _), (4, _), (3, _), (2, _), (0, _)] _ _
  refine tr_cond rfl (fun c10 => ?_) (fun c10 => ?_)
  · skip
    refine tr_skip (hK6 _ _ (TrC.keep [10, 4, 3, 2, 0] ?_))
    show TrC _ _ _ _ [(10, _), (4, _), (3, _), (2, _), (0, _)] _ _
    refine tr_seq (fun K8 hK8 => ?_)
    refine tr_block ?_
    refine tr_seq (fun K9 hK9 => ?_)
    -- region 5: ref.go:18
    have hsl : (sortR (W.take i.toNat)).length = i.toNat := by rw [sortR_len, takeN hi0 (by omega)]
    have hcap := vec_len H.get0
    refine tr_region ?_
    refine tr_val (ov_move rfl rfl) rfl rfl rfl ?_
    refine tr_val (ov_len rfl rfl Try.underlying46 rfl) rfl rfl rfl ?_
    refine tr_val (ov_assign rfl rfl) rfl rfl rfl ?_
    refine tr_nil (hK9 _ _ (TrC.keep [5, 10, 4, 3, 2, 0] ?_))
    show TrC _ _ _ _ [(5, _), (10, _), (4, _), (3, _), (2, _), (0, _)] _ _
    refine tr_seq (fun K10 hK10 => ?_)
    refine tr_block ?_
    refine tr_loop_ (X := Int) [10, 4, 3, 2, 0] (fun j => [(5, .int .i64 j)]) (fun j w' => 0 ≤ j ∧ j ≤ i ∧ (∀ k : Int, j ≤ k → k < (sortR (W.take i.toNat)).length → ltR (gt W i) (gt (sortR (W.take i.toNat)) k)) ∧ SH w noBlocks [vec A1 c1 59 4 encRThing (sortR (W.take i.toNat))] w') (fun j => j.toNat) (i) (Sub.consE rfl (congrArg (Value.int .i64) (by omega)) (Sub.cons rfl (Sub.cons rfl (Sub.cons rfl (Sub.cons rfl (Sub.cons rfl Sub.nil)))))) (⟨by omega, by omega, fun k h0 h1 => by omega, H⟩) ?_
    rintro j w2 ⟨hj0, hj1, hjb, H⟩ K11 hK11
    show TrC _ _ _ _ [(5, _), (10, _), (4, _), (3, _), (2, _), (0, _)] _ _
    refine tr_seq (fun K12 hK12 => ?_)
    refine tr_seq (fun K13 hK13 => ?_)
    -- region 6: ref.go:19
    refine tr_quiet mixed (by kernel_rfl) H ?_
    refine tq_val (fun _ H => ov_move rfl rfl) rfl rfl rfl ?_
    refine tq_val (fun _ H => ov_gtr rfl rfl rfl) rfl rfl rfl ?_
    refine tq_val (fun _ H => ov_move rfl rfl) rfl rfl rfl ?_
    refine tq_split (t := 17) rfl (fun s17 => ?_) (fun s17 => ?_)
    · skip
      refine tq_val (fun _ H => ov_move rfl rfl) rfl rfl rfl ?_
      refine tq_val (fun _ H => ov_move rfl rfl) rfl rfl rfl ?_
      refine tq_val (fun _ H => ov_indexAddrR (H.rd0 hR) rfl Try.underlying46 (Try.sizeOf59 _) rfl rfl (by omega) (by omega)) rfl rfl rfl ?_
      refine tq_val (fun _ H => ld_RThing (H.rd0 hR) rfl (Try.isAgg59 _) (Try.sizeOf59 _) rfl (by omega) (by omega)) rfl rfl rfl ?_
      refine tq_val (fun _ H => ov_move rfl rfl) rfl rfl rfl ?_
      refine tq_val (fun _ H => ov_move rfl rfl) rfl rfl rfl ?_
      refine tq_val (fun _ H => ov_sub rfl rfl rfl (w64 (by omega))) rfl rfl rfl ?_
      refine tq_val (fun _ H => ov_indexAddrR (vec_rd H.get0 lenRThing (by decide)) rfl Try.underlying46 (Try.sizeOf59 _) rfl rfl (by omega) (by omega)) rfl rfl rfl ?_
      refine tq_val (fun _ H => ld_RThing (vec_rd H.get0 lenRThing (by decide)) rfl (Try.isAgg59 _) (Try.sizeOf59 _) rfl (by omega) (by omega)) rfl rfl rfl ?_
      refine tq_call (fun _ H => (BeforeR_c (gt W i) (gt (sortR (W.take i.toNat)) (j - 1)) _).mono (fun _ _ hq => ⟨hq.1, H.call0n hq.2⟩)) rfl rfl rfl Try.call73 rfl rfl rfl ?_
      refine tq_val (fun _ H => ov_pick (vb := undef) rfl rfl rfl rfl) rfl rfl rfl ?_
      refine tq_nil ?_
      intro w3 H
      refine hK13 _ _ (TrC.keep [28, 5, 10, 4, 3, 2, 0] ?_)
      show TrC _ _ _ _ [(28, _), (5, _), (10, _), (4, _), (3, _), (2, _), (0, _)] _ _
      refine tr_cond rfl (fun c28 => ?_) (fun c28 => ?_)
      · skip
        refine tr_skip (hK12 _ _ (TrC.keep [28, 5, 10, 4, 3, 2, 0] ?_))
        show TrC _ _ _ _ [(28, _), (5, _), (10, _), (4, _), (3, _), (2, _), (0, _)] _ _
        refine tr_block ?_
        -- region 7: ref.go:20
        refine tr_region ?_
        refine tr_val (ov_move rfl rfl) rfl rfl rfl ?_
        refine tr_val (ov_sub rfl rfl rfl (w64 (by omega))) rfl rfl rfl ?_
        refine tr_val (ov_assign rfl rfl) rfl rfl rfl ?_
        skip
        exact tr_nil (hK11 (j - 1) _ _ (⟨by omega, by omega, fun k h0 h1 => by by_cases hk : k = j - 1; (subst hk; simpa using c28); exact hjb k (by omega) h1, H⟩) (by omega) (Sub.cons rfl (Sub.cons rfl (Sub.cons rfl (Sub.cons rfl (Sub.cons rfl (Sub.cons rfl Sub.nil)))))))
      · have hja : j = 0 ∨ ¬ ltR (gt W i) (gt (sortR (W.take i.toNat)) (j - 1)) := by exact .inr (by simpa using c28)
        refine tr_exit (hK10 _ _ (TrC.keep [28, 5, 10, 4, 3, 2, 0] ?_))
        show TrC _ _ _ _ [(28, _), (5, _), (10, _), (4, _), (3, _), (2, _), (0, _)] _ _
        refine tr_seq (fun K14 hK14 => ?_)
        -- region 8: ref.go:22
        have e1 := takeN (L := (sortR (W.take i.toNat))) hj0 (by omega)
        have e2 := dropN (L := (sortR (W.take i.toNat))) (i := j)
        refine tr_region ?_
        refine tr_buildSlice0 H rfl Try.underlying46 info59 rfl rfl rfl ?_
        intro b8 w18 hb8 H
        have H := H.upd0 (upd_vec_of_blk (L := ([] : List RThing)) (enc := encRThing) (sz := 4) H.get0 rfl lenRThing (by simp))
        refine tr_val (ov_move rfl rfl) rfl rfl rfl ?_
        refine tr_val (ov_move rfl rfl) rfl rfl rfl ?_
        refine tr_val (ov_slice_hi rfl Try.underlying46 (Try.sizeOf59 _) rfl rfl (by omega) (by omega)) rfl rfl rfl ?_
        refine tr_append (M := (sortR (W.take i.toNat)).take j.toNat) H.get0 (rd_take (vec_rd H.get1 lenRThing (by decide)) hcap _) rfl rfl (by rw [e1]; rfl) Try.underlying46 info59 rfl rfl (show Try.t59.bytes = 32 from rfl) rfl (by decide) lenRThing oneRThing (by simp; omega) (by simp [maxLen]; omega) rfl rfl rfl ?_
        intro A2 c2 w20 U; have H := H.upd0 U; clear U
        rw [List.nil_append] at H ⊢
        refine tr_val (ov_assign rfl rfl) rfl rfl rfl ?_
        refine tr_nil (hK14 _ _ (TrC.keep [6, 28, 5, 10, 4, 3, 2, 0] ?_))
        show TrC _ _ _ _ [(6, _), (28, _), (5, _), (10, _), (4, _), (3, _), (2, _), (0, _)] _ _
        refine tr_seq (fun K15 hK15 => ?_)
        -- region 9: ref.go:23
        refine tr_region ?_
        refine tr_val (ov_move rfl rfl) rfl rfl rfl ?_
        refine tr_val (ov_move rfl rfl) rfl rfl rfl ?_
        refine tr_val (ov_move rfl rfl) rfl rfl rfl ?_
        refine tr_val (ov_indexAddrR (H.rd0 hR) rfl Try.underlying46 (Try.sizeOf59 _) rfl rfl (by omega) (by omega)) rfl rfl rfl ?_
        refine tr_val (ld_RThing (H.rd0 hR) rfl (Try.isAgg59 _) (Try.sizeOf59 _) rfl (by omega) (by omega)) rfl rfl rfl ?_
        refine tr_buildSlice H rfl Try.underlying46 info59 rfl (fun ρ k => bs1 k rfl) (by decide) (by decide) (fill_RThing_1 _ _ _ _) rfl rfl rfl ?_
        intro b9 wb90 hb9 H
        refine tr_append H.get1 (rd_blk [gt W i] H.get0 rfl lenRThing) rfl rfl rfl Try.underlying46 info59 rfl rfl (show Try.t59.bytes = 32 from rfl) rfl (by decide) lenRThing oneRThing (by rw [e1]; simp; omega) (by rw [e1]; simp [maxLen]; omega) rfl rfl rfl ?_
        intro A3 c3 w30 U; have H := H.upd1 U; clear U
        refine tr_val (ov_assign rfl rfl) rfl rfl rfl ?_
        refine tr_nil (hK15 _ _ (TrC.keep [6, 28, 5, 10, 4, 3, 2, 0] ?_))
        show TrC _ _ _ _ [(6, _), (28, _), (5, _), (10, _), (4, _), (3, _), (2, _), (0, _)] _ _
        -- region 10: ref.go:24
        have H := H.drop0
        have e3 : ((sortR (W.take i.toNat)).take j.toNat ++ [gt W i]).length = j.toNat + 1 := by rw [List.length_append, e1]; rfl
        refine tr_region ?_
        refine tr_val (ov_move rfl rfl) rfl rfl rfl ?_
        refine tr_val (ov_move rfl rfl) rfl rfl rfl ?_
        refine tr_val (ov_move rfl rfl) rfl rfl rfl ?_
        refine tr_val (ov_slice_lo rfl Try.underlying46 (Try.sizeOf59 _) rfl rfl (by omega) (by omega)) rfl rfl rfl ?_
        refine tr_append (M := (sortR (W.take i.toNat)).drop j.toNat) H.get0 (rd_drop (vec_rd H.get1 lenRThing (by decide)) hcap _) rfl rfl (by rw [e2]; rfl) Try.underlying46 info59 rfl rfl (show Try.t59.bytes = 32 from rfl) rfl (by decide) lenRThing oneRThing (by rw [e3, e2]; omega) (by rw [e3, e2]; simp [maxLen]; omega) rfl rfl rfl ?_
        intro A4 c4 w40 U; have H := H.upd0 U; clear U
        have hins : ((sortR (W.take i.toNat)).take j.toNat ++ [gt W i]) ++ (sortR (W.take i.toNat)).drop j.toNat = sortR (W.take (i + 1).toNat) := by
          rw [sortR_snoc hi0 (by omega), ins_back (up_sortR _) hj0 (by omega) hjb hja]; simp
        rw [hins] at H ⊢
        refine tr_val (ov_assign rfl rfl) rfl rfl rfl ?_
        refine tr_nil (hK8 _ _ (TrC.keep [3, 6, 28, 5, 10, 4, 2, 0] ?_))
        show TrC _ _ _ _ [(3, _), (6, _), (28, _), (5, _), (10, _), (4, _), (2, _), (0, _)] _ _
        -- region 4: ref.go:17
        refine tr_region ?_
        refine tr_val (ov_move rfl rfl) rfl rfl rfl ?_
        refine tr_val (ov_add rfl rfl rfl (w64 (by omega))) rfl rfl rfl ?_
        refine tr_val (ov_assign rfl rfl) rfl rfl rfl ?_
        skip
        exact tr_nil (hK5 (⟨i + 1, A4, c4⟩) _ _ (⟨by omega, by omega, H.drop1⟩) (by (dsimp only; omega)) (Sub.cons rfl (Sub.cons rfl (Sub.cons rfl (Sub.cons rfl Sub.nil)))))
    · have hja : j = 0 ∨ ¬ ltR (gt W i) (gt (sortR (W.take i.toNat)) (j - 1)) := .inl (by omega)
      refine tq_pass rfl rfl rfl ?_
      refine tq_pass rfl rfl rfl ?_
      refine tq_pass rfl rfl rfl ?_
      refine tq_pass rfl rfl rfl ?_
      refine tq_pass rfl rfl rfl ?_
      refine tq_pass rfl rfl rfl ?_
      refine tq_pass rfl rfl rfl ?_
      refine tq_pass rfl rfl rfl ?_
      refine tq_pass rfl rfl rfl ?_
      refine tq_pass rfl rfl rfl ?_
      refine tq_val (fun _ H => ov_pick_f (va := undef) rfl rfl rfl rfl) rfl rfl rfl ?_
      refine tq_nil ?_
      intro w4 H
      refine hK13 _ _ (TrC.keep [28, 5, 10, 4, 3, 2, 0] ?_)
      show TrC _ _ _ _ [(28, _), (5, _), (10, _), (4, _), (3, _), (2, _), (0, _)] _ _
      refine tr_cond_f rfl rfl ?_
      refine tr_exit (hK10 _ _ (TrC.keep [28, 5, 10, 4, 3, 2, 0] ?_))
      show TrC _ _ _ _ [(28, _), (5, _), (10, _), (4, _), (3, _), (2, _), (0, _)] _ _
      refine tr_seq (fun K16 hK16 => ?_)
      -- region 8: ref.go:22
      have e1 := takeN (L := (sortR (W.take i.toNat))) hj0 (by omega)
      have e2 := dropN (L := (sortR (W.take i.toNat))) (i := j)
      refine tr_region ?_
      refine tr_buildSlice0 H rfl Try.underlying46 info59 rfl rfl rfl ?_
      intro b8 w18 hb8 H
      have H := H.upd0 (upd_vec_of_blk (L := ([] : List RThing)) (enc := encRThing) (sz := 4) H.get0 rfl lenRThing (by simp))
      refine tr_val (ov_move rfl rfl) rfl rfl rfl ?_
      refine tr_val (ov_move rfl rfl) rfl rfl rfl ?_
      refine tr_val (ov_slice_hi rfl Try.underlying46 (Try.sizeOf59 _) rfl rfl (by omega) (by omega)) rfl rfl rfl ?_
      refine tr_append (M := (sortR (W.take i.toNat)).take j.toNat) H.get0 (rd_take (vec_rd H.get1 lenRThing (by decide)) hcap _) rfl rfl (by rw [e1]; rfl) Try.underlying46 info59 rfl rfl (show Try.t59.bytes = 32 from rfl) rfl (by decide) lenRThing oneRThing (by simp; omega) (by simp [maxLen]; omega) rfl rfl rfl ?_
      intro A2 c2 w20 U; have H := H.upd0 U; clear U
      rw [List.nil_append] at H ⊢
      refine tr_val (ov_assign rfl rfl) rfl rfl rfl ?_
      refine tr_nil (hK16 _ _ (TrC.keep [6, 28, 5, 10, 4, 3, 2, 0] ?_))
      show TrC _ _ _ _ [(6, _), (28, _), (5, _), (10, _), (4, _), (3, _), (2, _), (0, _)] _ _
      refine tr_seq (fun K17 hK17 => ?_)
      -- region 9: ref.go:23
      refine tr_region ?_
      refine tr_val (ov_move rfl rfl) rfl rfl rfl ?_
      refine tr_val (ov_move rfl rfl) rfl rfl rfl ?_
      refine tr_val (ov_move rfl rfl) rfl rfl rfl ?_
      refine tr_val (ov_indexAddrR (H.rd0 hR) rfl Try.underlying46 (Try.sizeOf59 _) rfl rfl (by omega) (by omega)) rfl rfl rfl ?_
      refine tr_val (ld_RThing (H.rd0 hR) rfl (Try.isAgg59 _) (Try.sizeOf59 _) rfl (by omega) (by omega)) rfl rfl rfl ?_
      refine tr_buildSlice H rfl Try.underlying46 info59 rfl (fun ρ k => bs1 k rfl) (by decide) (by decide) (fill_RThing_1 _ _ _ _) rfl rfl rfl ?_
      intro b9 wb90 hb9 H
      refine tr_append H.get1 (rd_blk [gt W i] H.get0 rfl lenRThing) rfl rfl rfl Try.underlying46 info59 rfl rfl (show Try.t59.bytes = 32 from rfl) rfl (by decide) lenRThing oneRThing (by rw [e1]; simp; omega) (by rw [e1]; simp [maxLen]; omega) rfl rfl rfl ?_
      intro A3 c3 w30 U; have H := H.upd1 U; clear U
      refine tr_val (ov_assign rfl rfl) rfl rfl rfl ?_
      refine tr_nil (hK17 _ _ (TrC.keep [6, 28, 5, 10, 4, 3, 2, 0] ?_))
      show TrC _ _ _ _ [(6, _), (28, _), (5, _), (10, _), (4, _), (3, _), (2, _), (0, _)] _ _
      -- region 10: ref.go:24
      have H := H.drop0
      have e3 : ((sortR (W.take i.toNat)).take j.toNat ++ [gt W i]).length = j.toNat + 1 := by rw [List.length_append, e1]; rfl
      refine tr_region ?_
      refine tr_val (ov_move rfl rfl) rfl rfl rfl ?_
      refine tr_val (ov_move rfl rfl) rfl rfl rfl ?_
      refine tr_val (ov_move rfl rfl) rfl rfl rfl ?_
      refine tr_val (ov_slice_lo rfl Try.underlying46 (Try.sizeOf59 _) rfl rfl (by omega) (by omega)) rfl rfl rfl ?_
      refine tr_append (M := (sortR (W.take i.toNat)).drop j.toNat) H.get0 (rd_drop (vec_rd H.get1 lenRThing (by decide)) hcap _) rfl rfl (by rw [e2]; rfl) Try.underlying46 info59 rfl rfl (show Try.t59.bytes = 32 from rfl) rfl (by decide) lenRThing oneRThing (by rw [e3, e2]; omega) (by rw [e3, e2]; simp [maxLen]; omega) rfl rfl rfl ?_
      intro A4 c4 w40 U; have H := H.upd0 U; clear U
      have hins : ((sortR (W.take i.toNat)).take j.toNat ++ [gt W i]) ++ (sortR (W.take i.toNat)).drop j.toNat = sortR (W.take (i + 1).toNat) := by
        rw [sortR_snoc hi0 (by omega), ins_back (up_sortR _) hj0 (by omega) hjb hja]; simp
      rw [hins] at H ⊢
      refine tr_val (ov_assign rfl rfl) rfl rfl rfl ?_
      refine tr_nil (hK8 _ _ (TrC.keep [3, 6, 28, 5, 10, 4, 2, 0] ?_))
      show TrC _ _ _ _ [(3, _), (6, _), (28, _), (5, _), (10, _), (4, _), (2, _), (0, _)] _ _
      -- region 4: ref.go:17
      refine tr_region ?_
      refine tr_val (ov_move rfl rfl) rfl rfl rfl ?_
      refine tr_val (ov_add rfl rfl rfl (w64 (by omega))) rfl rfl rfl ?_
      refine tr_val (ov_assign rfl rfl) rfl rfl rfl ?_
      skip
      exact tr_nil (hK5 (⟨i + 1, A4, c4⟩) _ _ (⟨by omega, by omega, H.drop1⟩) (by (dsimp only; omega)) (Sub.cons rfl (Sub.cons rfl (Sub.cons rfl (Sub.cons rfl Sub.nil)))))
  · skip
    refine tr_exit (hK3 _ _ (TrC.keep [10, 4, 3, 2, 0] ?_))
    show TrC _ _ _ _ [(10, _), (4, _), (3, _), (2, _), (0, _)] _ _
    refine tr_seq (fun K18 hK18 => ?_)
    -- region 11: ref.go:26
    refine tr_region ?_
    refine tr_val (ov_move rfl rfl) rfl rfl rfl ?_
    refine tr_val (ov_assign rfl rfl) rfl rfl rfl ?_
    refine tr_nil (hK18 _ _ (TrC.keep [2, 10, 4, 3, 0] ?_))
    show TrC _ _ _ _ [(2, _), (10, _), (4, _), (3, _), (0, _)] _ _
    refine tr_ret (post_ret1 (.inr rfl) rfl rfl ?_)
    have e : W.take i.toNat = W := List.take_of_length_le (by omega)
    rw [e] at H ⊢
    exact ⟨A1, c1, rfl, H⟩

/-! curfew/curfewlaw11.Plain -/
set_option maxRecDepth 20000 in
theorem Plain_c (t : Thing) (w : World) : Does Try.prog 65 #[.agg #[.int .u64 t.id, .int .u64 t.gen, .int .i64 t.due]] w (fun v w' => v = .agg #[.int .u64 (toR t 0).id, .int .u64 (toR t 0).gen, .int .i64 (toR t 0).due, .int .i64 (toR t 0).slot] ∧ SH w noBlocks [] w') := by
  refine does_enter1 Try.func65 rfl Try.ntmps65 rfl ?_
  have H := SH.start w noBlocks
  refine tr_seq (fun K1 hK1 => ?_)
  -- region 0: law.go:20
  refine tr_region ?_
  refine tr_box H rfl rfl rfl rfl rfl rfl ?_
  intro b1 w1 hb1 H
  refine tr_alloc H rfl (Try.zeroValue59 _) rfl rfl rfl rfl ?_
  intro b2 w2 hb2 H
  refine tr_nil (hK1 _ _ (TrC.keep [2, 1] ?_))
  show TrC _ _ _ _ [(2, _), (1, _)] _ _
  refine tr_seq (fun K2 hK2 => ?_)
  -- region 1: law.go:20
  refine tr_region ?_
  refine tr_val (ov_fieldAddr rfl Try.underlying30 rfl (Try.sizeOf28 _) (by decide) rfl) rfl rfl rfl ?_
  refine tr_val (ov_load_blk H.get1 rfl (Try.isAgg28 _) rfl rfl rfl) rfl rfl rfl ?_
  refine tr_val (ov_fieldAddr rfl Try.underlying30 rfl (Try.sizeOf28 _) (by decide) rfl) rfl rfl rfl ?_
  refine tr_val (ov_load_blk H.get1 rfl (Try.isAgg28 _) rfl rfl rfl) rfl rfl rfl ?_
  refine tr_val (ov_fieldAddr rfl Try.underlying30 rfl (Try.sizeOf2 _) (by decide) rfl) rfl rfl rfl ?_
  refine tr_val (ov_load_blk H.get1 rfl (Try.isAgg2 _) rfl rfl rfl) rfl rfl rfl ?_
  refine tr_val (ov_build rfl (fun ρ k => bs3 k rfl rfl rfl) (bld59_0_1_2 _ _ _ _)) rfl rfl rfl ?_
  (refine tr_storeW H.get0 rfl (Try.sizeOf59 _) rfl rfl rfl rfl rfl rfl rfl rfl ?_; intro w3 U; have H := H.upd0 U; clear U)
  refine tr_nil (hK2 _ _ (TrC.keep [2] ?_))
  show TrC _ _ _ _ [(2, _)] _ _
  refine tr_ret (post_ret1 (.inr rfl) rfl (by exact ⟨_, rfl, res_blkN H.get0 (Try.isAgg59 _) (Try.sizeOf59 _) rfl rfl⟩) ?_)
  exact ⟨rfl, H.drop0.drop0⟩

theorem plain_eq (t : Thing) (r : RThing) : toR t 0 = ({ r with slot := 0 } : RThing) ↔ t = plainR r := by
  cases t; cases r; simp [toR, plainR]
theorem same_step {L : List Thing} {W : List RThing} {i : Int} (h0 : 0 ≤ i) (h1 : i < L.length) (h2 : L.length = W.length) (h : L.take i.toNat = (W.take i.toNat).map plainR) (he : gt L i = plainR (gt W i)) : L.take (i + 1).toNat = (W.take (i + 1).toNat).map plainR := by
  rw [take_gt h0 h1, take_gt h0 (by omega), List.map_append, h, he]; rfl
theorem same_not {L : List Thing} {W : List RThing} {i : Int} (h0 : 0 ≤ i) (h1 : i < L.length) (h2 : L.length = W.length) (he : ¬ gt L i = plainR (gt W i)) : ¬ L = W.map plainR := by
  intro h
  apply he
  have := gt_get h0 h1
  have h3 := gt_get (L := W) h0 (by omega)
  rw [h, List.getElem?_map, h3] at this
  injection this with this
  rw [h]; exact this.symm

/-! curfew/curfewlaw11.Same -/
set_option maxRecDepth 20000 in
theorem Same_c (B : Option Addr) (c : Nat) (L : List Thing) (w : World) (hR : Rd w B 3 (L.map encThing)) (hL : L.length ≤ 65536) (B2 : Option Addr) (c2 : Nat) (W : List RThing) (hR2 : Rd w B2 4 (W.map encRThing)) (hW : W.length ≤ 65536) : Does Try.prog 25 #[.slice B L.length c, .slice B2 W.length c2] w (fun v w' => v = .bool (decide (L = W.map plainR)) ∧ SH w noBlocks [] w') := by
  refine does_enter2 Try.func25 rfl Try.ntmps25 rfl ?_
  have H := SH.start w noBlocks
  refine tr_seq (fun K1 hK1 => ?_)
  -- region 0: law.go:23
  refine tr_region ?_
  refine tr_val (ov_assign rfl rfl) rfl rfl rfl ?_
  refine tr_nil (hK1 _ _ (TrC.keep [4, 0, 1] ?_))
  show TrC _ _ _ _ [(4, _), (0, _), (1, _)] _ _
  refine tr_seq (fun K2 hK2 => ?_)
  refine tr_seq (fun K3 hK3 => ?_)
  -- region 1: law.go:24
  refine tr_region ?_
  refine tr_val (ov_move rfl rfl) rfl rfl rfl ?_
  refine tr_val (ov_len rfl rfl Try.underlying32 rfl) rfl rfl rfl ?_
  refine tr_val (ov_move rfl rfl) rfl rfl rfl ?_
  refine tr_val (ov_len rfl rfl Try.underlying46 rfl) rfl rfl rfl ?_
  refine tr_val (ov_neq rfl rfl rfl) rfl rfl rfl ?_
  refine tr_nil (hK3 _ _ (TrC.keep [11, 4, 0, 1] ?_))
  show TrC _ _ _ _ [(11, _), (4, _), (0, _), (1, _)] _ _
  refine tr_cond rfl (fun c11 => ?_) (fun c11 => ?_)
  · skip
    refine tr_seq (fun K4 hK4 => ?_)
    -- region 2: law.go:25
    refine tr_region ?_
    refine tr_val (ov_assign rfl rfl) rfl rfl rfl ?_
    refine tr_nil (hK4 _ _ (TrC.keep [4, 11, 0, 1] ?_))
    show TrC _ _ _ _ [(4, _), (11, _), (0, _), (1, _)] _ _
    refine tr_ret (post_ret1 (.inr rfl) rfl rfl ?_)
    exact ⟨congrArg Value.bool (decide_eq_false (fun h => by have := congrArg List.length h; simp at this; omega)).symm, H⟩
  · skip
    refine tr_skip (hK2 _ _ (TrC.keep [11, 4, 0, 1] ?_))
    show TrC _ _ _ _ [(11, _), (4, _), (0, _), (1, _)] _ _
    refine tr_seq (fun K5 hK5 => ?_)
    refine tr_seq (fun K6 hK6 => ?_)
    -- region 3: law.go:27
    refine tr_region ?_
    refine tr_val (ov_move rfl rfl) rfl rfl rfl ?_
    refine tr_val (ov_len rfl rfl Try.underlying32 rfl) rfl rfl rfl ?_
    refine tr_val (ov_move rfl rfl) rfl rfl rfl ?_
    refine tr_nil (hK6 _ _ (TrC.keep [14, 13, 11, 4, 0, 1] ?_))
    show TrC _ _ _ _ [(14, _), (13, _), (11, _), (4, _), (0, _), (1, _)] _ _
    refine tr_block ?_
    refine tr_loop_ (X := Int) [13, 11, 0, 1] (fun i => [(14, .int .i64 i)]) (fun i w' => 0 ≤ i ∧ i ≤ L.length ∧ L.take i.toNat = (W.take i.toNat).map plainR ∧ SH w noBlocks [] w') (fun i => (L.length - i).toNat) (0) (Sub.cons rfl (Sub.cons rfl (Sub.cons rfl (Sub.cons rfl (Sub.cons rfl Sub.nil))))) (⟨by omega, by omega, rfl, H⟩) ?_
    rintro i w1 ⟨hi0, hi1, hx, H⟩ K7 hK7
    show TrC _ _ _ _ [(14, _), (13, _), (11, _), (0, _), (1, _)] _ _
    refine tr_seq (fun K8 hK8 => ?_)
    -- region 4: law.go:27
    refine tr_region ?_
    refine tr_val (ov_lss rfl rfl rfl) rfl rfl rfl ?_
    refine tr_nil (hK8 _ _ (TrC.keep [15, 14, 13, 11, 0, 1] ?_))
    show TrC _ _ _ _ [(15, _), (14, _), (13, _), (11, _), (0, _), (1, _)] _ _
    refine tr_seq (fun K9 hK9 => ?_)
    refine tr_cond rfl (fun c15 => ?_) (fun c15 => ?_)
    · skip
      refine tr_skip (hK9 _ _ (TrC.keep [15, 14, 13, 11, 0, 1] ?_))
      show TrC _ _ _ _ [(15, _), (14, _), (13, _), (11, _), (0, _), (1, _)] _ _
      refine tr_seq (fun K10 hK10 => ?_)
      refine tr_block ?_
      refine tr_seq (fun K11 hK11 => ?_)
      -- region 5: law.go:27
      refine tr_region ?_
      refine tr_val (ov_move rfl rfl) rfl rfl rfl ?_
      refine tr_val (ov_assign rfl rfl) rfl rfl rfl ?_
      refine tr_nil (hK11 _ _ (TrC.keep [5, 15, 14, 13, 11, 0, 1] ?_))
      show TrC _ _ _ _ [(5, _), (15, _), (14, _), (13, _), (11, _), (0, _), (1, _)] _ _
      refine tr_seq (fun K12 hK12 => ?_)
      -- region 6: law.go:28
      refine tr_region ?_
      refine tr_val (ov_move rfl rfl) rfl rfl rfl ?_
      refine tr_val (ov_move rfl rfl) rfl rfl rfl ?_
      refine tr_val (ov_indexAddrR (H.rd0 hR2) rfl Try.underlying46 (Try.sizeOf59 _) rfl rfl (by omega) (by omega)) rfl rfl rfl ?_
      refine tr_val (ld_RThing (H.rd0 hR2) rfl (Try.isAgg59 _) (Try.sizeOf59 _) rfl (by omega) (by omega)) rfl rfl rfl ?_
      refine tr_alloc H rfl (Try.zeroValue59 _) rfl rfl rfl rfl ?_
      intro b1 w2 hb1 H
      (refine tr_storeW H.get0 rfl (Try.sizeOf59 _) rfl rfl rfl rfl rfl rfl rfl rfl ?_; intro w3 U; have H := H.upd0 U; clear U)
      refine tr_nil (hK12 _ _ (TrC.keep [6, 5, 15, 14, 13, 11, 0, 1] ?_))
      show TrC _ _ _ _ [(6, _), (5, _), (15, _), (14, _), (13, _), (11, _), (0, _), (1, _)] _ _
      refine tr_seq (fun K13 hK13 => ?_)
      -- region 7: law.go:29
      refine tr_region ?_
      refine tr_val (ov_fieldAddr rfl Try.underlying59 rfl (Try.sizeOf3 _) (by decide) rfl) rfl rfl rfl ?_
      (refine tr_store H.get0 rfl (Try.sizeOf3 _) rfl rfl rfl rfl rfl rfl rfl ?_; intro w4 U; have H := H.upd0 U; clear U)
      try simp only [List.set_cons_zero, List.set_cons_succ, Nat.zero_add] at H
      refine tr_nil (hK13 _ _ (TrC.keep [6, 5, 15, 14, 13, 11, 0, 1] ?_))
      show TrC _ _ _ _ [(6, _), (5, _), (15, _), (14, _), (13, _), (11, _), (0, _), (1, _)] _ _
      refine tr_seq (fun K14 hK14 => ?_)
      -- region 8: law.go:30
      refine tr_held (fun w' => ∃ rs, SH w noBlocks rs w' ∧ (blk b1 59 [.int .u64 (gt W i).id, .int .u64 (gt W i).gen, .int .i64 (gt W i).due, .int .i64 0]).holds w') mixed rfl H ?_
      intro w5 H
      refine th_take 0 rfl (by kernel_rfl) (by kernel_rfl) (by kernel_rfl) (⟨_, H, H.get0⟩) (fun _ hS => ov_move rfl rfl) rfl rfl rfl ?_
      refine th_take 1 rfl (by kernel_rfl) (by kernel_rfl) (by kernel_rfl) (⟨_, H, H.get0⟩) (fun _ hS => ov_move rfl rfl) rfl rfl rfl ?_
      refine th_take 2 rfl (by kernel_rfl) (by kernel_rfl) (by kernel_rfl) (⟨_, H, H.get0⟩) (fun _ hS => ov_indexAddrR (rdS (hS.imp fun _ h => h.1) hR) rfl Try.underlying32 (Try.sizeOf30 _) rfl rfl (by omega) (by omega)) rfl rfl rfl ?_
      refine th_take 3 rfl (by kernel_rfl) (by kernel_rfl) (by kernel_rfl) (⟨_, H, H.get0⟩) (fun _ hS => ld_Thing (rdS (hS.imp fun _ h => h.1) hR) rfl (Try.isAgg30 _) (Try.sizeOf30 _) rfl (by omega) (by omega)) rfl rfl rfl ?_
      refine th_take 5 rfl (by kernel_rfl) (by kernel_rfl) (by kernel_rfl) (⟨_, H, H.get0⟩) (fun _ hS => ov_load_blkN (b := b1) (cs := [.int .u64 (gt W i).id, .int .u64 (gt W i).gen, .int .i64 (gt W i).due, .int .i64 0]) (hS.elim fun _ h => h.2) rfl (Try.isAgg59 _) (Try.sizeOf59 _) rfl rfl rfl) rfl rfl rfl ?_
      refine th_one 4 (by kernel_rfl) ?_
      refine tw_call (Plain_c (gt L i) _) rfl rfl rfl rfl Try.call65 rfl rfl rfl ?_
      rintro _ w6 ⟨rfl, HC⟩
      have H := H.call0n HC
      refine ⟨⟨_, H, H.get0⟩, ?_⟩
      refine th_take 6 rfl (by kernel_rfl) (by kernel_rfl) (by kernel_rfl) (⟨_, H, H.get0⟩) (fun _ hS => ov_neRT (s := toR (gt L i) 0) (t := { gt W i with slot := 0 }) rfl rfl rfl) rfl rfl rfl ?_
      refine th_done (by kernel_rfl) ?_
      refine hK14 _ _ (TrC.keep [28, 6, 5, 15, 14, 13, 11, 0, 1] ?_)
      show TrC _ _ _ _ [(28, _), (6, _), (5, _), (15, _), (14, _), (13, _), (11, _), (0, _), (1, _)] _ _
      refine tr_cond rfl (fun c28 => ?_) (fun c28 => ?_)
      · skip
        refine tr_seq (fun K15 hK15 => ?_)
        -- region 9: law.go:31
        refine tr_region ?_
        refine tr_val (ov_assign rfl rfl) rfl rfl rfl ?_
        refine tr_nil (hK15 _ _ (TrC.keep [4, 28, 6, 5, 15, 14, 13, 11, 0, 1] ?_))
        show TrC _ _ _ _ [(4, _), (28, _), (6, _), (5, _), (15, _), (14, _), (13, _), (11, _), (0, _), (1, _)] _ _
        refine tr_ret (post_ret1 (.inr rfl) rfl rfl ?_)
        exact ⟨congrArg Value.bool (decide_eq_false (same_not hi0 (by omega) (by omega) (fun h => c28 ((plain_eq _ _).mpr h)))).symm, H.drop0⟩
      · skip
        refine tr_skip (hK10 _ _ (TrC.keep [28, 6, 5, 15, 14, 13, 11, 0, 1] ?_))
        show TrC _ _ _ _ [(28, _), (6, _), (5, _), (15, _), (14, _), (13, _), (11, _), (0, _), (1, _)] _ _
        -- region 10: law.go:27
        refine tr_region ?_
        refine tr_val (ov_add rfl rfl rfl (w64 (by omega))) rfl rfl rfl ?_
        refine tr_val (ov_move rfl rfl) rfl rfl rfl ?_
        skip
        exact tr_nil (hK7 (i + 1) _ _ (⟨by omega, by omega, same_step hi0 (by omega) (by omega) hx ((plain_eq _ _).mp (Classical.not_not.mp c28)), H.drop0⟩) (by omega) (Sub.cons rfl (Sub.cons rfl (Sub.cons rfl (Sub.cons rfl (Sub.cons rfl Sub.nil))))))
    · skip
      refine tr_exit (hK5 _ _ (TrC.keep [15, 14, 13, 11, 0, 1] ?_))
      show TrC _ _ _ _ [(15, _), (14, _), (13, _), (11, _), (0, _), (1, _)] _ _
      refine tr_seq (fun K16 hK16 => ?_)
      -- region 11: law.go:34
      refine tr_region ?_
      refine tr_val (ov_assign rfl rfl) rfl rfl rfl ?_
      refine tr_nil (hK16 _ _ (TrC.keep [4, 15, 14, 13, 11, 0, 1] ?_))
      show TrC _ _ _ _ [(4, _), (15, _), (14, _), (13, _), (11, _), (0, _), (1, _)] _ _
      refine tr_ret (post_ret1 (.inr rfl) rfl rfl ?_)
      have e1 : L.take i.toNat = L := List.take_of_length_le (by omega)
      have e2 : W.take i.toNat = W := List.take_of_length_le (by omega)
      rw [e1, e2] at hx
      exact ⟨congrArg Value.bool (decide_eq_true hx).symm, H⟩

end Go.Proofs.Ytblipnjjgbggiaa
