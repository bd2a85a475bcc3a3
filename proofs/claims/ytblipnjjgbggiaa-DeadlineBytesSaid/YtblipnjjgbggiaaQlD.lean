/- Contracts of wheel.Wheel: deadline.Same. Conditions: none. -/
import Derived.Test.YtblipnjjgbggiaaQlB
import Derived.Test.YtblipnjjgbggiaaQlC
import Derived.Test.YtblipnjjgbggiaaQrt
import Derived.Laws.IdiomStrings
namespace Go.Proofs.Ytblipnjjgbggiaa
open Go Go.RowKit
set_option linter.unusedVariables false
set_option linter.unusedSimpArgs false

/-! curfew/deadline.Same$1 -/
set_option maxRecDepth 20000 in
theorem same1_c (s t : Thing) (w : World) : Does Try.prog 80 #[.agg #[.int .u64 s.id, .int .u64 s.gen, .int .i64 s.due], .agg #[.int .u64 t.id, .int .u64 t.gen, .int .i64 t.due]] w (fun v w' => v = .bool (decide (s = t)) ∧ SH w noBlocks [] w') := by
  refine does_enter2 Try.func80 rfl Try.ntmps80 rfl ?_
  have H := SH.start w noBlocks
  refine tr_seq (fun K1 hK1 => ?_)
  -- region 0: deadline.go:53
  refine tr_region ?_
  refine tr_box H rfl rfl rfl rfl rfl rfl ?_
  intro b1 w1 hb1 H
  refine tr_box H rfl rfl rfl rfl rfl rfl ?_
  intro b2 w2 hb2 H
  refine tr_val (ov_assign rfl rfl) rfl rfl rfl ?_
  refine tr_nil (hK1 _ _ (TrC.keep [4, 3, 2] ?_))
  show TrC _ _ _ _ [(4, _), (3, _), (2, _)] _ _
  refine tr_seq (fun K2 hK2 => ?_)
  -- region 1: deadline.go:53
  refine tr_region ?_
  refine tr_val (ov_load_blkN H.get1 rfl (Try.isAgg30 _) (Try.sizeOf30 _) rfl rfl rfl) rfl rfl rfl ?_
  refine tr_val (ov_load_blkN H.get0 rfl (Try.isAgg30 _) (Try.sizeOf30 _) rfl rfl rfl) rfl rfl rfl ?_
  refine tr_val (ov_eqTh (s := s) (t := t) rfl rfl rfl) rfl rfl rfl ?_
  refine tr_val (ov_assign rfl rfl) rfl rfl rfl ?_
  refine tr_nil (hK2 _ _ (TrC.keep [4] ?_))
  show TrC _ _ _ _ [(4, _)] _ _
  refine tr_ret (post_ret1 (.inr rfl) rfl rfl ?_)
  exact ⟨rfl, H.drop0.drop0⟩

theorem takeT_step {X Y : List Thing} {i : Int} (h0 : 0 ≤ i) (h1 : i < X.length) (hl : X.length = Y.length) (hx : X.take i.toNat = Y.take i.toNat) (h : gt X i = gt Y i) : X.take (i + 1).toNat = Y.take (i + 1).toNat := by
  rw [take_gt h0 h1, take_gt h0 (by omega), hx, h]

/-! slices.EqualFunc[[]curfew/slots.Thing,[]curfew/slots.Thing,curfew/slots.Thing,curfew/slots.Thing] -/
set_option maxRecDepth 20000 in
theorem EqualFunc_c (B : Option Addr) (c : Nat) (X : List Thing) (B2 : Option Addr) (c2 : Nat) (Y : List Thing) (w : World) (hR : Rd w B 3 (X.map encThing)) (hR2 : Rd w B2 3 (Y.map encThing)) (hl : X.length ≤ 60000) : Does Try.prog 79 #[.slice B X.length c, .slice B2 Y.length c2, .func (.func 80) #[] #[]] w (fun v w' => v = .bool (decide (X = Y)) ∧ SH w noBlocks [] w') := by
  refine does_enter3 Try.func79 rfl Try.ntmps79 rfl ?_
  have H := SH.start w noBlocks
  refine tr_seq (fun K1 hK1 => ?_)
  -- region 0: slices.go:37
  refine tr_region ?_
  refine tr_val (ov_assign rfl rfl) rfl rfl rfl ?_
  refine tr_nil (hK1 _ _ (TrC.keep [6, 0, 1, 2] ?_))
  show TrC _ _ _ _ [(6, _), (0, _), (1, _), (2, _)] _ _
  refine tr_seq (fun K2 hK2 => ?_)
  refine tr_seq (fun K3 hK3 => ?_)
  -- region 1: slices.go:38
  refine tr_region ?_
  refine tr_val (ov_move rfl rfl) rfl rfl rfl ?_
  refine tr_val (ov_len rfl rfl Try.underlying32 rfl) rfl rfl rfl ?_
  refine tr_val (ov_move rfl rfl) rfl rfl rfl ?_
  refine tr_val (ov_len rfl rfl Try.underlying32 rfl) rfl rfl rfl ?_
  refine tr_val (ov_neq rfl rfl rfl) rfl rfl rfl ?_
  refine tr_nil (hK3 _ _ (TrC.keep [14, 6, 0, 1, 2] ?_))
  show TrC _ _ _ _ [(14, _), (6, _), (0, _), (1, _), (2, _)] _ _
  refine tr_cond rfl (fun c14 => ?_) (fun c14 => ?_)
  · skip
    refine tr_seq (fun K4 hK4 => ?_)
    -- region 2: slices.go:39
    refine tr_region ?_
    refine tr_val (ov_assign rfl rfl) rfl rfl rfl ?_
    refine tr_nil (hK4 _ _ (TrC.keep [6, 14, 0, 1, 2] ?_))
    show TrC _ _ _ _ [(6, _), (14, _), (0, _), (1, _), (2, _)] _ _
    refine tr_ret (post_ret1 (.inr rfl) rfl rfl ?_)
    exact ⟨congrArg Value.bool (decide_eq_false (fun h => by subst h; omega)).symm, H⟩
  · skip
    refine tr_skip (hK2 _ _ (TrC.keep [14, 6, 0, 1, 2] ?_))
    show TrC _ _ _ _ [(14, _), (6, _), (0, _), (1, _), (2, _)] _ _
    refine tr_seq (fun K5 hK5 => ?_)
    refine tr_seq (fun K6 hK6 => ?_)
    -- region 3: slices.go:41
    refine tr_region ?_
    refine tr_val (ov_move rfl rfl) rfl rfl rfl ?_
    refine tr_val (ov_len rfl rfl Try.underlying32 rfl) rfl rfl rfl ?_
    refine tr_val (ov_move rfl rfl) rfl rfl rfl ?_
    refine tr_nil (hK6 _ _ (TrC.keep [17, 16, 15, 14, 6, 0, 1, 2] ?_))
    show TrC _ _ _ _ [(17, _), (16, _), (15, _), (14, _), (6, _), (0, _), (1, _), (2, _)] _ _
    refine tr_block ?_
    refine tr_loop_ (X := Int) [16, 15, 14, 0, 1, 2] (fun i => [(17, .int .i64 i)]) (fun i w' => 0 ≤ i ∧ i ≤ X.length ∧ X.take i.toNat = Y.take i.toNat ∧ SH w noBlocks [] w') (fun i => (X.length - i).toNat) (0) (Sub.cons rfl (Sub.cons rfl (Sub.cons rfl (Sub.cons rfl (Sub.cons rfl (Sub.cons rfl (Sub.cons rfl Sub.nil))))))) (⟨by omega, by omega, by simp, H⟩) ?_
    rintro i w1 ⟨hi0, hi1, hx, H⟩ K7 hK7
    show TrC _ _ _ _ [(17, _), (16, _), (15, _), (14, _), (0, _), (1, _), (2, _)] _ _
    refine tr_seq (fun K8 hK8 => ?_)
    -- region 4: slices.go:41
    refine tr_region ?_
    refine tr_val (ov_lss rfl rfl rfl) rfl rfl rfl ?_
    refine tr_nil (hK8 _ _ (TrC.keep [18, 17, 16, 15, 14, 0, 1, 2] ?_))
    show TrC _ _ _ _ [(18, _), (17, _), (16, _), (15, _), (14, _), (0, _), (1, _), (2, _)] _ _
    refine tr_seq (fun K9 hK9 => ?_)
    refine tr_cond rfl (fun c18 => ?_) (fun c18 => ?_)
    · skip
      refine tr_skip (hK9 _ _ (TrC.keep [18, 17, 16, 15, 14, 0, 1, 2] ?_))
      show TrC _ _ _ _ [(18, _), (17, _), (16, _), (15, _), (14, _), (0, _), (1, _), (2, _)] _ _
      refine tr_seq (fun K10 hK10 => ?_)
      refine tr_block ?_
      refine tr_seq (fun K11 hK11 => ?_)
      -- region 5: slices.go:41
      refine tr_region ?_
      refine tr_val (ov_move rfl rfl) rfl rfl rfl ?_
      refine tr_val (ov_indexAddrR (H.rd0 hR) rfl Try.underlying32 (Try.sizeOf30 _) rfl rfl (by omega) (by omega)) rfl rfl rfl ?_
      refine tr_val (ld_Thing (H.rd0 hR) rfl (Try.isAgg30 _) (Try.sizeOf30 _) rfl (by omega) (by omega)) rfl rfl rfl ?_
      refine tr_alloc H rfl (Try.zeroValue30 _) rfl rfl rfl rfl ?_
      intro b1 w2 hb1 H
      refine tr_val (ov_assign rfl rfl) rfl rfl rfl ?_
      (refine tr_storeW H.get0 rfl (Try.sizeOf30 _) rfl rfl rfl rfl rfl rfl rfl rfl ?_; intro w3 U; have H := H.upd0 U; clear U)
      refine tr_nil (hK11 _ _ (TrC.keep [7, 8, 18, 17, 16, 15, 14, 0, 1, 2] ?_))
      show TrC _ _ _ _ [(7, _), (8, _), (18, _), (17, _), (16, _), (15, _), (14, _), (0, _), (1, _), (2, _)] _ _
      refine tr_seq (fun K12 hK12 => ?_)
      -- region 6: slices.go:42
      refine tr_region ?_
      refine tr_val (ov_move rfl rfl) rfl rfl rfl ?_
      refine tr_val (ov_move rfl rfl) rfl rfl rfl ?_
      refine tr_val (ov_indexAddrR (H.rd0 hR2) rfl Try.underlying32 (Try.sizeOf30 _) rfl rfl (by omega) (by omega)) rfl rfl rfl ?_
      refine tr_val (ld_Thing (H.rd0 hR2) rfl (Try.isAgg30 _) (Try.sizeOf30 _) rfl (by omega) (by omega)) rfl rfl rfl ?_
      refine tr_alloc H rfl (Try.zeroValue30 _) rfl rfl rfl rfl ?_
      intro b2 w4 hb2 H
      (refine tr_storeW H.get0 rfl (Try.sizeOf30 _) rfl rfl rfl rfl rfl rfl rfl rfl ?_; intro w5 U; have H := H.upd0 U; clear U)
      refine tr_nil (hK12 _ _ (TrC.keep [9, 8, 18, 17, 16, 15, 14, 0, 1, 2] ?_))
      show TrC _ _ _ _ [(9, _), (8, _), (18, _), (17, _), (16, _), (15, _), (14, _), (0, _), (1, _), (2, _)] _ _
      refine tr_seq (fun K13 hK13 => ?_)
      -- region 7: slices.go:43
      refine tr_region ?_
      refine tr_val (ov_move rfl rfl) rfl rfl rfl ?_
      refine tr_val (ov_load_blkN H.get1 rfl (Try.isAgg30 _) (Try.sizeOf30 _) rfl rfl rfl) rfl rfl rfl ?_
      refine tr_val (ov_load_blkN H.get0 rfl (Try.isAgg30 _) (Try.sizeOf30 _) rfl rfl rfl) rfl rfl rfl ?_
      refine tr_call (same1_c (gt X i) (gt Y i) _) rfl rfl rfl Try.call80 rfl rfl rfl ?_
      rintro _ w6 ⟨rfl, HC⟩
      have H := H.call0n HC
      refine tr_val (ov_not rfl rfl) rfl rfl rfl ?_
      refine tr_nil (hK13 _ _ (TrC.keep [30, 9, 8, 18, 17, 16, 15, 14, 0, 1, 2] ?_))
      show TrC _ _ _ _ [(30, _), (9, _), (8, _), (18, _), (17, _), (16, _), (15, _), (14, _), (0, _), (1, _), (2, _)] _ _
      refine tr_cond rfl (fun c30 => ?_) (fun c30 => ?_)
      · skip
        refine tr_seq (fun K14 hK14 => ?_)
        -- region 8: slices.go:44
        refine tr_region ?_
        refine tr_val (ov_assign rfl rfl) rfl rfl rfl ?_
        refine tr_nil (hK14 _ _ (TrC.keep [6, 30, 9, 8, 18, 17, 16, 15, 14, 0, 1, 2] ?_))
        show TrC _ _ _ _ [(6, _), (30, _), (9, _), (8, _), (18, _), (17, _), (16, _), (15, _), (14, _), (0, _), (1, _), (2, _)] _ _
        refine tr_ret (post_ret1 (.inr rfl) rfl rfl ?_)
        exact ⟨congrArg Value.bool (decide_eq_false (fun h => c30 (by rw [h]))).symm, H.drop0.drop0⟩
      · skip
        refine tr_skip (hK10 _ _ (TrC.keep [30, 9, 8, 18, 17, 16, 15, 14, 0, 1, 2] ?_))
        show TrC _ _ _ _ [(30, _), (9, _), (8, _), (18, _), (17, _), (16, _), (15, _), (14, _), (0, _), (1, _), (2, _)] _ _
        -- region 9: slices.go:41
        refine tr_region ?_
        refine tr_val (ov_add rfl rfl rfl (w64 (by omega))) rfl rfl rfl ?_
        refine tr_val (ov_move rfl rfl) rfl rfl rfl ?_
        skip
        exact tr_nil (hK7 (i + 1) _ _ (⟨by omega, by omega, takeT_step hi0 (by omega) (by omega) hx (Classical.not_not.mp c30), H.drop0.drop0⟩) (by omega) (Sub.cons rfl (Sub.cons rfl (Sub.cons rfl (Sub.cons rfl (Sub.cons rfl (Sub.cons rfl (Sub.cons rfl Sub.nil))))))))
    · skip
      refine tr_exit (hK5 _ _ (TrC.keep [18, 17, 16, 15, 14, 0, 1, 2] ?_))
      show TrC _ _ _ _ [(18, _), (17, _), (16, _), (15, _), (14, _), (0, _), (1, _), (2, _)] _ _
      refine tr_seq (fun K15 hK15 => ?_)
      -- region 10: slices.go:47
      refine tr_region ?_
      refine tr_val (ov_assign rfl rfl) rfl rfl rfl ?_
      refine tr_nil (hK15 _ _ (TrC.keep [6, 18, 17, 16, 15, 14, 0, 1, 2] ?_))
      show TrC _ _ _ _ [(6, _), (18, _), (17, _), (16, _), (15, _), (14, _), (0, _), (1, _), (2, _)] _ _
      refine tr_ret (post_ret1 (.inr rfl) rfl rfl ?_)
      have e1 : X.take i.toNat = X := List.take_of_length_le (by omega)
      have e2 : Y.take i.toNat = Y := List.take_of_length_le (by omega)
      rw [e1, e2] at hx
      exact ⟨congrArg Value.bool (decide_eq_true hx).symm, H⟩

/-! curfew/deadline.Same -/
set_option maxRecDepth 20000 in
theorem SameD_c (B : Option Addr) (c : Nat) (X : List Thing) (B2 : Option Addr) (c2 : Nat) (Y : List Thing) (w : World) (hR : Rd w B 3 (X.map encThing)) (hR2 : Rd w B2 3 (Y.map encThing)) (hl : X.length ≤ 60000) (n l n2 l2 : Int) : Does Try.prog 43 #[.agg #[.int .i64 n, .int .u64 l, .slice B (X).length c], .agg #[.int .i64 n2, .int .u64 l2, .slice B2 (Y).length c2]] w (fun v w' => v = .bool (decide (n = n2 ∧ l = l2 ∧ X = Y)) ∧ SH w noBlocks [] w') := by
  refine does_enter2 Try.func43 rfl Try.ntmps43 rfl ?_
  have H := SH.start w noBlocks
  refine tr_seq (fun K1 hK1 => ?_)
  -- region 0: deadline.go:52
  refine tr_region ?_
  refine tr_box H rfl rfl rfl rfl rfl rfl ?_
  intro b1 w1 hb1 H
  refine tr_box H rfl rfl rfl rfl rfl rfl ?_
  intro b2 w2 hb2 H
  refine tr_val (ov_assign rfl rfl) rfl rfl rfl ?_
  refine tr_nil (hK1 _ _ (TrC.keep [4, 3, 2] ?_))
  show TrC _ _ _ _ [(4, _), (3, _), (2, _)] _ _
  refine tr_seq (fun K2 hK2 => ?_)
  -- region 1: deadline.go:53
  refine tr_region ?_
  refine tr_val (ov_fieldAddr rfl Try.underlying78 rfl (Try.sizeOf2 _) (by decide) rfl) rfl rfl rfl ?_
  refine tr_val (ov_load_blk H.get1 rfl (Try.isAgg2 _) rfl rfl rfl) rfl rfl rfl ?_
  refine tr_val (ov_fieldAddr rfl Try.underlying78 rfl (Try.sizeOf2 _) (by decide) rfl) rfl rfl rfl ?_
  refine tr_val (ov_load_blk H.get0 rfl (Try.isAgg2 _) rfl rfl rfl) rfl rfl rfl ?_
  refine tr_val (ov_eql rfl rfl rfl) rfl rfl rfl ?_
  refine tr_val (ov_move rfl rfl) rfl rfl rfl ?_
  refine tr_split (t := 10) rfl (fun s10 => ?_) (fun s10 => ?_)
  · skip
    refine tr_val (ov_fieldAddr rfl Try.underlying78 rfl (Try.sizeOf28 _) (by decide) rfl) rfl rfl rfl ?_
    refine tr_val (ov_load_blk H.get1 rfl (Try.isAgg28 _) rfl rfl rfl) rfl rfl rfl ?_
    refine tr_val (ov_fieldAddr rfl Try.underlying78 rfl (Try.sizeOf28 _) (by decide) rfl) rfl rfl rfl ?_
    refine tr_val (ov_load_blk H.get0 rfl (Try.isAgg28 _) rfl rfl rfl) rfl rfl rfl ?_
    refine tr_val (ov_eql rfl rfl rfl) rfl rfl rfl ?_
    refine tr_val (ov_pick (vb := undef) rfl rfl rfl rfl) rfl rfl rfl ?_
    refine tr_val (ov_move rfl rfl) rfl rfl rfl ?_
    refine tr_split (t := 17) rfl (fun s17 => ?_) (fun s17 => ?_)
    · skip
      refine tr_val (ov_fieldAddr rfl Try.underlying78 rfl (Try.sizeOf32 _) (by decide) rfl) rfl rfl rfl ?_
      refine tr_val (ov_load_blk H.get1 rfl (Try.isAgg32 _) rfl rfl rfl) rfl rfl rfl ?_
      refine tr_val (ov_fieldAddr rfl Try.underlying78 rfl (Try.sizeOf32 _) (by decide) rfl) rfl rfl rfl ?_
      refine tr_val (ov_load_blk H.get0 rfl (Try.isAgg32 _) rfl rfl rfl) rfl rfl rfl ?_
      refine tr_call (EqualFunc_c B c X B2 c2 Y _ (H.rd0 hR) (H.rd0 hR2) hl) rfl rfl rfl Try.call79 rfl rfl rfl ?_
      rintro _ w3 ⟨rfl, HC⟩
      have H := H.call0n HC
      refine tr_val (ov_pick (vb := undef) rfl rfl rfl rfl) rfl rfl rfl ?_
      refine tr_val (ov_assign rfl rfl) rfl rfl rfl ?_
      refine tr_nil (hK2 _ _ (TrC.keep [4] ?_))
      show TrC _ _ _ _ [(4, _)] _ _
      refine tr_ret (post_ret1 (.inr rfl) rfl rfl ?_)
      exact ⟨congrArg Value.bool (decide_eq_decide.mpr ⟨fun h => ⟨s10, s17, h⟩, fun h => h.2.2⟩), H.drop0.drop0⟩
    · skip
      refine tr_pass rfl rfl rfl ?_
      refine tr_pass rfl rfl rfl ?_
      refine tr_pass rfl rfl rfl ?_
      refine tr_pass rfl rfl rfl ?_
      refine tr_pass rfl rfl rfl ?_
      refine tr_val (ov_pick_f (va := undef) rfl rfl rfl rfl) rfl rfl rfl ?_
      refine tr_val (ov_assign rfl rfl) rfl rfl rfl ?_
      refine tr_nil (hK2 _ _ (TrC.keep [4] ?_))
      show TrC _ _ _ _ [(4, _)] _ _
      refine tr_ret (post_ret1 (.inr rfl) rfl rfl ?_)
      exact ⟨congrArg Value.bool (decide_eq_false (fun h => by omega)).symm, H.drop0.drop0⟩
  · skip
    refine tr_pass rfl rfl rfl ?_
    refine tr_pass rfl rfl rfl ?_
    refine tr_pass rfl rfl rfl ?_
    refine tr_pass rfl rfl rfl ?_
    refine tr_pass rfl rfl rfl ?_
    refine tr_val (ov_pick_f (va := undef) rfl rfl rfl rfl) rfl rfl rfl ?_
    refine tr_val (ov_move rfl rfl) rfl rfl rfl ?_
    refine tr_pass rfl rfl rfl ?_
    refine tr_pass rfl rfl rfl ?_
    refine tr_pass rfl rfl rfl ?_
    refine tr_pass rfl rfl rfl ?_
    refine tr_pass rfl rfl rfl ?_
    refine tr_val (ov_pick_f (va := undef) rfl rfl rfl rfl) rfl rfl rfl ?_
    refine tr_val (ov_assign rfl rfl) rfl rfl rfl ?_
    refine tr_nil (hK2 _ _ (TrC.keep [4] ?_))
    show TrC _ _ _ _ [(4, _)] _ _
    refine tr_ret (post_ret1 (.inr rfl) rfl rfl ?_)
    exact ⟨congrArg Value.bool (decide_eq_false (fun h => by omega)).symm, H.drop0.drop0⟩

def strOf (L : List Int) : ByteArray := ⟨(L.map fun n => UInt8.ofNat n.toNat).toArray⟩
theorem ov_str {P : Program} {l : List (Nat × Value)} {w : World} {o : Oper} {src dst e : TypeId} {x : Operand} {A1 : Option Addr} {c : Nat} {L : List Int} (hR : Rd w A1 1 (L.map encU8)) (hB : Bytes L) (ho : o.op = .convert src dst x) (hs : P.underlying src = some (.slice e)) (he : P.underlying e = some (.int .u8)) (hd : P.underlying dst = some .string) (hx : ev l x = some (.slice A1 L.length c)) : OpV P l w o (.string (strOf L)) := by
  intro ρ k
  have hrun : (convert src dst (.slice A1 L.length c)).run P w = .ok (.string (strOf L)) w := by
    cases A1 with
    | none =>
      have hL : L = [] := by cases hq : L with | nil => rfl | cons a M => have := hR.1 (by rw [hq]; simp); cases this
      subst hL
      rw [run_convert_bytes_string w src dst e none _ c hs he hd]
      rfl
    | some a =>
      have hlen : (L.map fun n => UInt8.ofNat n.toNat).length = L.length := by simp
      have h := run_convert_bytes_back (P := P) w src dst e a c (L.map fun n => UInt8.ofNat n.toNat) hs he hd (fun j hj => by
        rw [hlen] at hj
        have hb := hB _ (List.getElem_mem hj)
        have h2 := hR.2 j 0 (encU8 L[j]) (.int .u8 L[j]) (by simp [hj]) rfl
        have e1 : ((L.map fun n => UInt8.ofNat n.toNat)[j]'(by simpa using hj)).toNat = L[j].toNat := by
          rw [List.getElem_map, UInt8.toNat_ofNat']
          omega
        rw [e1, Int.toNat_of_nonneg hb.1]
        simpa [adr] using h2)
      rw [hlen] at h
      exact h
  simp only [execOp, ho, k _ _ hx, Sem.run_bind, hrun, Result.andThen_ok, Sem.run_pure]
theorem ov_nestr {P : Program} {l : List (Nat × Value)} {w : World} {o : Oper} {t u : TypeId} {x y : Operand} {s : ByteArray} (ho : o.op = .binOp .neq t x y u) (ht : P.underlying t = some .string) (hx : ev l x = some (.string s)) (hy : ev l y = some (.string s)) : OpV P l w o (.bool false) := by
  intro ρ k
  simp [execOp, ho, k _ _ hx, k _ _ hy, eqGuard, binOp, Op.stringOp]

end Go.Proofs.Ytblipnjjgbggiaa
