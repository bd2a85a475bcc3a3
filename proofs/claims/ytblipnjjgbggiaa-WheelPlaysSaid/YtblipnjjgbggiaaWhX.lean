/- Contracts of wheel.Wheel: do, WheelPlays. Conditions: none. -/
import Derived.Test.YtblipnjjgbggiaaWhR
namespace Go.Proofs.Ytblipnjjgbggiaa
open Go Go.RowKit
set_option linter.unusedVariables false
set_option linter.unusedSimpArgs false

theorem tup_t {a : Value} {b : Bool} (h : b = true) : Value.tuple #[a, .bool b] = .tuple #[a, .bool true] := by rw [h]
theorem idx_lt (id : Int) (W : List RThing) : idxR id W < W.length := by
  by_cases h : idxR id W < 0
  · omega
  · obtain ⟨r, hr⟩ := idxR_pos h
    exact (idxR_some hr).2.1
theorem rOr_z (id : Int) (X : List Thing) : rOr (findR id (zR X)) = toR (tOr (findT id X)) 0 := by
  rw [findR_z]; cases findT id X <;> rfl
theorem isSome_z (id : Int) (X : List Thing) : (findR id (zR X)).isSome = (findT id X).isSome := by rw [findR_z, Option.isSome_map]
theorem get_idx (id : Int) (X : List Thing) : ((findT id X).isSome == decide (0 ≤ idxR id (zR X))) = true := by
  rw [← isSome_z]
  by_cases h : idxR id (zR X) < 0
  · rw [idxR_neg h, decide_eq_false (by omega)]; rfl
  · obtain ⟨r, hr⟩ := idxR_pos h
    rw [hr, decide_eq_true (by omega)]; rfl
theorem whX_of {d : Nat} {now : Int} {X : List Thing} {L : List Res} (h : WheelX 65 117 161 30 d now X L) : Ids X ∧ (∀ t, t ∈ X → 0 ≤ t.due ∧ t.due ≤ 1125899906842624) ∧ X.length ≤ 256 ∧ (0 ≤ now ∧ now ≤ 1125899906842624) := by
  obtain ⟨Rs, Fv, hW, hM⟩ := h
  exact ⟨hW.ids, hW.dues, hW.few, hW.now0⟩
theorem tOr_neg {id : Int} {X : List Thing} (h : idxR id (zR X) < 0) : tOr (findT id X) = ⟨0, 0, 0⟩ := by
  have h1 := isSome_z id X
  rw [idxR_neg h] at h1
  cases h2 : findT id X with
  | none => rfl
  | some u => rw [h2] at h1; cases h1
theorem get_pos {id : Int} {X : List Thing} (h : ¬ idxR id (zR X) < 0) : toR (tOr (findT id X)) 0 = gt (zR X) (idxR id (zR X)) := by
  obtain ⟨r, hr⟩ := idxR_pos h
  rw [(idxR_some hr).2.2.1, ← rOr_z, hr]; rfl
theorem due_z {X : List Thing} (h : ∀ t, t ∈ X → 0 ≤ t.due ∧ t.due ≤ 1125899906842624) : ∀ r, r ∈ zR X → 0 ≤ r.due ∧ r.due ≤ 1125899906842624 := fun r hr => by
  obtain ⟨t, ht, rfl⟩ := List.mem_map.mp hr
  exact h t ht
theorem wNow_x (d : Nat) (now : Int) (X : List Thing) (L : List Res) (w : World) (hX : WheelX 65 117 161 30 d now X L) (hO : (pack L).holds w) : Does Try.prog 23 #[.pointer (some ⟨d, 0, none⟩)] w (fun v w' => v = .int .i64 now ∧ SH w noBlocks [] w') := by
  obtain ⟨Rs, Fv, _, hM⟩ := hX
  exact wNow_m d now Rs Fv L w hM hO
theorem nextD_eq (X : List Thing) : nextD X = .tuple #[.int .i64 (if X.length = 0 then 0 else (gt (sortT X) 0).due), .bool (decide (0 < X.length))] := by
  unfold nextD
  by_cases h : X.length = 0
  · rw [if_pos h, if_pos h, decide_eq_false (by omega)]
  · rw [if_neg h, if_neg h, decide_eq_true (by omega)]
def toW (now : Int) (q : WOp) : Int := if q.kind = 3 then now + max (min q.th.due 2251799813685248) 0 else q.th.due
def stN (now : Int) (q : WOp) : Int := if q.kind = 2 ∨ q.kind = 3 then advN now (toW now q) else now
def stX (now : Int) (X : List Thing) (q : WOp) : List Thing := if q.kind = 1 then dropT q.th.id X else if q.kind = 2 ∨ q.kind = 3 then advX now (toW now q) X else if q.kind = 4 then X else if (armV X q.th).2 = 0 then sortT (X ++ [q.th]) else X
theorem arm_perm (X : List Thing) (t : Thing) : (armV X t).1.Perm (if (armV X t).2 = 0 then sortT (X ++ [t]) else X) := by
  unfold armV
  by_cases q1 : ¬ (0 ≤ t.due ∧ t.due ≤ 1125899906842624)
  · rw [if_pos q1]; exact .refl _
  · rw [if_neg q1]
    by_cases q2 : (findT t.id X).isSome = true
    · rw [if_pos q2]; exact .refl _
    · rw [if_neg q2]
      by_cases q3 : 256 ≤ X.length
      · rw [if_pos q3]; exact .refl _
      · rw [if_neg q3]; exact (sortT_perm _).symm
theorem stX_up {now : Int} {X : List Thing} {q : WOp} (h : UpT X) : UpT (stX now X q) := by
  unfold stX
  split
  · exact upT_sub h dropT_sub
  · split
    · unfold advX; split
      · exact upT_sub h List.filter_sublist
      · exact h
    · split
      · exact h
      · split
        · exact up_sortT _
        · exact h

/-! curfew/curfewlaw12.do -/
set_option maxRecDepth 20000 in
theorem do12_c (B : Option Addr) (c : Nat) (d : Nat) (now : Int) (X : List Thing) (L : List Res) (w : World) (hX : WheelX 65 117 161 30 d now X L) (hU : UpT X) (hc : (zR X).length ≤ c) (hO : Own [rdr B 4 ((zR X).map encRThing), pack L] w) (q : WOp) : Does Try.prog 22 #[.pointer (some ⟨d, 0, none⟩), .agg #[.int .i64 now, .slice B ((zR X)).length c], .agg #[.int .i64 q.kind, .int .u64 q.th.id, .int .u64 q.th.gen, .int .i64 q.th.due]] w (fun v w' => ∃ A' c', v = .tuple #[.agg #[.int .i64 (stN now q), .slice A' ((zR (stX now X q))).length c'], .bool true] ∧ (zR (stX now X q)).length ≤ c' ∧ ∃ L', WheelX 65 117 161 30 d (stN now q) (stX now X q) L' ∧ SH w (footAll [rdr B 4 ((zR X).map encRThing), pack L]) [rdr A' 4 ((zR (stX now X q)).map encRThing), pack L'] w') := by
  refine does_enter3 Try.func22 rfl Try.ntmps22 rfl ?_
  have H := SH.ofOwn hO
  obtain ⟨hids, hdue, hfew, hnow⟩ := whX_of hX
  have hzl := zR_len X
  refine tr_seq (fun K1 hK1 => ?_)
  -- region 0: law.go:30
  refine tr_region ?_
  refine tr_box H rfl rfl rfl rfl rfl rfl ?_
  intro b1 w1 hb1 H
  refine tr_box H rfl rfl rfl rfl rfl rfl ?_
  intro b2 w2 hb2 H
  refine tr_alloc H rfl (Try.zeroValue48 _) rfl rfl rfl rfl ?_
  intro b3 w3 hb3 H
  refine tr_val (ov_assign rfl rfl) rfl rfl rfl ?_
  refine tr_nil (hK1 _ _ (TrC.keep [7, 6, 5, 4, 0] ?_))
  show TrC _ _ _ _ [(7, _), (6, _), (5, _), (4, _), (0, _)] _ _
  refine tr_seq (fun K2 hK2 => ?_)
  -- region 1: law.go:31
  refine tr_region ?_
  refine tr_val (ov_fieldAddr rfl Try.underlying50 rfl (Try.sizeOf30 _) (by decide) rfl) rfl rfl rfl ?_
  refine tr_val (ov_load_blkP (vs := [.int .u64 q.th.id, .int .u64 q.th.gen, .int .i64 q.th.due]) H.get1 rfl (Try.isAgg30 _) (Try.sizeOf30 _) rfl rfl rfl rfl) rfl rfl rfl ?_
  refine tr_alloc H rfl (Try.zeroValue30 _) rfl rfl rfl rfl ?_
  intro b4 w4 hb4 H
  (refine tr_storeW H.get0 rfl (Try.sizeOf30 _) rfl rfl rfl rfl rfl rfl rfl rfl ?_; intro w5 U; have H := H.upd0 U; clear U)
  refine tr_nil (hK2 _ _ (TrC.keep [8, 7, 6, 5, 4, 0] ?_))
  show TrC _ _ _ _ [(8, _), (7, _), (6, _), (5, _), (4, _), (0, _)] _ _
  refine tr_seq (fun K3 hK3 => ?_)
  -- region 2: law.go:32
  refine tr_region ?_
  refine tr_val (ov_fieldAddr rfl Try.underlying50 rfl (Try.sizeOf3 _) (by decide) rfl) rfl rfl rfl ?_
  refine tr_val (ov_load_blk H.get2 rfl (Try.isAgg3 _) rfl rfl rfl) rfl rfl rfl ?_
  refine tr_nil (hK3 _ _ (TrC.keep [28, 8, 7, 6, 5, 4, 0] ?_))
  show TrC _ _ _ _ [(28, _), (8, _), (7, _), (6, _), (5, _), (4, _), (0, _)] _ _
  refine tr_block ?_
  refine tr_seq (fun K4 hK4 => ?_)
  -- region 5: law.go:33
  refine tr_region ?_
  refine tr_val (ov_eql rfl rfl rfl) rfl rfl rfl ?_
  refine tr_val (ov_assign rfl rfl) rfl rfl rfl ?_
  refine tr_nil (hK4 _ _ (TrC.keep [42, 28, 8, 7, 6, 5, 4, 0] ?_))
  show TrC _ _ _ _ [(42, _), (28, _), (8, _), (7, _), (6, _), (5, _), (4, _), (0, _)] _ _
  refine tr_cond rfl (fun c42 => ?_) (fun c42 => ?_)
  · skip
    refine tr_seq (fun K5 hK5 => ?_)
    -- region 6: law.go:34
    refine tr_region ?_
    refine tr_val (ov_load_blkN H.get3 rfl (Try.isAgg48 _) (Try.sizeOf48 _) rfl rfl rfl) rfl rfl rfl ?_
    refine tr_val (ov_fieldAddr rfl Try.underlying30 rfl (Try.sizeOf28 _) (by decide) rfl) rfl rfl rfl ?_
    refine tr_val (ov_load_blk H.get0 rfl (Try.isAgg28 _) rfl rfl rfl) rfl rfl rfl ?_
    refine tr_call (CancelR_c B c (zR X) now _ (rdr_rd H.get4) (by omega) hc q.th.id) rfl rfl rfl Try.call64 rfl rfl rfl ?_
    rintro _ w6 ⟨A1, c1, rfl, HN⟩
    obtain ⟨hc1, HC⟩ := HN.own H.get4 hc
    have H := H.top4.call1 HC
    rw [dropR_z] at H hc1 ⊢
    rw [rOr_z, isSome_z]
    refine tr_val (ov_move rfl rfl) rfl rfl rfl ?_
    refine tr_val (ov_extract rfl rfl rfl) rfl rfl rfl ?_
    refine tr_val (ov_extract rfl rfl rfl) rfl rfl rfl ?_
    refine tr_val (ov_extract rfl rfl rfl) rfl rfl rfl ?_
    refine tr_alloc H rfl (Try.zeroValue48 _) rfl rfl rfl rfl ?_
    intro b5 w7 hb5 H
    refine tr_alloc H rfl (Try.zeroValue59 _) rfl rfl rfl rfl ?_
    intro b6 w8 hb6 H
    (refine tr_storeW H.get1 rfl (Try.sizeOf48 _) rfl rfl rfl rfl rfl rfl rfl rfl ?_; intro w9 U; have H := H.upd1 U; clear U)
    (refine tr_storeW H.get0 rfl (Try.sizeOf59 _) rfl rfl rfl rfl rfl rfl rfl rfl ?_; intro w10 U; have H := H.upd0 U; clear U)
    refine tr_val (ov_assign rfl rfl) rfl rfl rfl ?_
    refine tr_nil (hK5 _ _ (TrC.keep [11, 10, 9, 42, 28, 8, 7, 6, 5, 4, 0] ?_))
    show TrC _ _ _ _ [(11, _), (10, _), (9, _), (42, _), (28, _), (8, _), (7, _), (6, _), (5, _), (4, _), (0, _)] _ _
    refine tr_seq (fun K6 hK6 => ?_)
    -- region 7: law.go:35
    refine tr_region ?_
    refine tr_val (ov_move rfl rfl) rfl rfl rfl ?_
    refine tr_val (ov_fieldAddr rfl Try.underlying30 rfl (Try.sizeOf28 _) (by decide) rfl) rfl rfl rfl ?_
    refine tr_val (ov_load_blk H.get3 rfl (Try.isAgg28 _) rfl rfl rfl) rfl rfl rfl ?_
    refine tr_call (wCancel_c d now X L _ hX H.get7 q.th.id) rfl rfl rfl Try.call21 rfl rfl rfl ?_
    rintro _ w11 ⟨rfl, L1, hX1, HC⟩
    have H := H.top7.call1 HC
    refine tr_val (ov_move rfl rfl) rfl rfl rfl ?_
    refine tr_val (ov_extract rfl rfl rfl) rfl rfl rfl ?_
    refine tr_val (ov_extract rfl rfl rfl) rfl rfl rfl ?_
    refine tr_alloc H rfl (Try.zeroValue30 _) rfl rfl rfl rfl ?_
    intro b7 w12 hb7 H
    (refine tr_storeW H.get0 rfl (Try.sizeOf30 _) rfl rfl rfl rfl rfl rfl rfl rfl ?_; intro w13 U; have H := H.upd0 U; clear U)
    refine tr_val (ov_assign rfl rfl) rfl rfl rfl ?_
    refine tr_nil (hK6 _ _ (TrC.keep [13, 12, 11, 10, 9, 42, 28, 8, 7, 6, 5, 4, 0] ?_))
    show TrC _ _ _ _ [(13, _), (12, _), (11, _), (10, _), (9, _), (42, _), (28, _), (8, _), (7, _), (6, _), (5, _), (4, _), (0, _)] _ _
    refine tr_seq (fun K7 hK7 => ?_)
    -- region 8: law.go:36
    refine tr_held (fun w' => (blk b5 48 [.int .i64 now, .slice A1 ((zR (dropT q.th.id X))).length c1]).holds w' ∧ (blk b7 30 [.int .u64 (tOr (findT q.th.id X)).id, .int .u64 (tOr (findT q.th.id X)).gen, .int .i64 (tOr (findT q.th.id X)).due]).holds w' ∧ (blk b6 59 [.int .u64 (toR (tOr (findT q.th.id X)) 0).id, .int .u64 (toR (tOr (findT q.th.id X)) 0).gen, .int .i64 (toR (tOr (findT q.th.id X)) 0).due, .int .i64 (toR (tOr (findT q.th.id X)) 0).slot]).holds w') mixed rfl H ?_
    intro w14 H
    refine th_take 0 rfl (by kernel_rfl) (by kernel_rfl) (by kernel_rfl) (⟨H.get3, H.get0, H.get2⟩) (fun _ hS => ov_load_blkN hS.1 rfl (Try.isAgg48 _) (Try.sizeOf48 _) rfl rfl rfl) rfl rfl rfl ?_
    refine th_take 1 rfl (by kernel_rfl) (by kernel_rfl) (by kernel_rfl) (⟨H.get3, H.get0, H.get2⟩) (fun _ hS => ov_move rfl rfl) rfl rfl rfl ?_
    refine th_take 2 rfl (by kernel_rfl) (by kernel_rfl) (by kernel_rfl) (⟨H.get3, H.get0, H.get2⟩) (fun _ hS => ov_move rfl rfl) rfl rfl rfl ?_
    refine th_take 3 rfl (by kernel_rfl) (by kernel_rfl) (by kernel_rfl) (⟨H.get3, H.get0, H.get2⟩) (fun _ hS => ov_eqlb rfl Try.underlying4 rfl rfl) rfl rfl rfl ?_
    refine th_take 4 rfl (by kernel_rfl) (by kernel_rfl) (by kernel_rfl) (⟨H.get3, H.get0, H.get2⟩) (fun _ hS => ov_move rfl rfl) rfl rfl rfl ?_
    refine th_split (t := 63) rfl (fun s63 => ?_) (fun s63 => ?_)
    · skip
      refine th_take 5 rfl (by kernel_rfl) (by kernel_rfl) (by kernel_rfl) (⟨H.get3, H.get0, H.get2⟩) (fun _ hS => ov_load_blkN hS.2.1 rfl (Try.isAgg30 _) (Try.sizeOf30 _) rfl rfl rfl) rfl rfl rfl ?_
      refine th_take 7 rfl (by kernel_rfl) (by kernel_rfl) (by kernel_rfl) (⟨H.get3, H.get0, H.get2⟩) (fun _ hS => ov_load_blkN hS.2.2 rfl (Try.isAgg59 _) (Try.sizeOf59 _) rfl rfl rfl) rfl rfl rfl ?_
      refine th_one 6 (by kernel_rfl) ?_
      refine tw_call (Plain_c (tOr (findT q.th.id X)) _) rfl rfl rfl rfl Try.call65 rfl rfl rfl ?_
      rintro _ w15 ⟨rfl, HC⟩
      have H := H.call0n HC
      refine ⟨⟨H.get3, H.get0, H.get2⟩, ?_⟩
      refine th_take 8 rfl (by kernel_rfl) (by kernel_rfl) (by kernel_rfl) (⟨H.get3, H.get0, H.get2⟩) (fun _ hS => ov_eqRT (s := toR (tOr (findT q.th.id X)) 0) (t := toR (tOr (findT q.th.id X)) 0) rfl rfl rfl) rfl rfl rfl ?_
      refine th_take 9 rfl (by kernel_rfl) (by kernel_rfl) (by kernel_rfl) (⟨H.get3, H.get0, H.get2⟩) (fun _ hS => ov_pick (vb := undef) rfl rfl rfl rfl) rfl rfl rfl ?_
      refine th_one 10 (by kernel_rfl) ?_
      (refine tw_storeW H.get6 rfl rfl (Try.sizeOf48 _) rfl rfl rfl rfl rfl rfl rfl rfl ?_; intro w16 U; have H := H.upd6 U; clear U)
      refine ⟨⟨H.get3, H.get0, H.get2⟩, ?_⟩
      refine th_take 11 rfl (by kernel_rfl) (by kernel_rfl) (by kernel_rfl) (⟨H.get3, H.get0, H.get2⟩) (fun _ hS => ov_assign rfl rfl) rfl rfl rfl ?_
      refine th_done (by kernel_rfl) ?_
      refine hK7 _ _ (TrC.keep [7, 12, 10, 9, 42, 28, 8, 6, 5, 4, 0] ?_)
      show TrC _ _ _ _ [(7, _), (12, _), (10, _), (9, _), (42, _), (28, _), (8, _), (6, _), (5, _), (4, _), (0, _)] _ _
      refine tr_ret (post_ret2 (.inr rfl) rfl (by exact ⟨_, rfl, res_blkN H.get6 (Try.isAgg48 _) (Try.sizeOf48 _) rfl rfl⟩) rfl ?_)
      (have eN : stN now q = now := (by unfold stN; rw [if_neg (by omega)]); have eX : stX now X q = dropT q.th.id X := (by unfold stX; rw [if_pos (by omega)]); rw [eN, eX]; exact ⟨A1, c1, tup_t (decide_eq_true rfl), hc1, L1, hX1, H.drop0.drop1.drop1.drop2.drop2.drop2.drop2.top1⟩)
    · exact absurd (by simp) s63
  · skip
    refine tr_seq (fun K8 hK8 => ?_)
    refine tr_seq (fun K9 hK9 => ?_)
    -- region 9: law.go:37
    refine tr_region ?_
    refine tr_val (ov_eql rfl rfl rfl) rfl rfl rfl ?_
    refine tr_val (ov_assign rfl rfl) rfl rfl rfl ?_
    refine tr_nil (hK9 _ _ (TrC.keep [69, 42, 28, 8, 7, 6, 5, 4, 0] ?_))
    show TrC _ _ _ _ [(69, _), (42, _), (28, _), (8, _), (7, _), (6, _), (5, _), (4, _), (0, _)] _ _
    refine tr_cond rfl (fun c69 => ?_) (fun c69 => ?_)
    · skip
      refine tr_skip (hK8 _ _ (TrC.keep [69, 42, 28, 8, 7, 6, 5, 4, 0] ?_))
      show TrC _ _ _ _ [(69, _), (42, _), (28, _), (8, _), (7, _), (6, _), (5, _), (4, _), (0, _)] _ _
      refine tr_cond rfl (fun c69 => ?_) (fun c69 => ?_)
      · skip
        refine tr_seq (fun K10 hK10 => ?_)
        -- region 11: law.go:38
        refine tr_region ?_
        refine tr_val (ov_fieldAddr rfl Try.underlying30 rfl (Try.sizeOf2 _) (by decide) rfl) rfl rfl rfl ?_
        refine tr_val (ov_load_blk H.get0 rfl (Try.isAgg2 _) rfl rfl rfl) rfl rfl rfl ?_
        refine tr_val (ov_assign rfl rfl) rfl rfl rfl ?_
        refine tr_nil (hK10 _ _ (TrC.keep [14, 69, 42, 28, 8, 7, 6, 5, 4, 0] ?_))
        show TrC _ _ _ _ [(14, _), (69, _), (42, _), (28, _), (8, _), (7, _), (6, _), (5, _), (4, _), (0, _)] _ _
        refine tr_seq_cut_ [69, 42, 28, 8, 7, 6, 5, 4, 0] [(14, .int .i64 (toW now q))] (fun w' => SH w (footAll [rdr B 4 ((zR X).map encRThing), pack L]) [blk b4 30 [.int .u64 q.th.id, .int .u64 q.th.gen, .int .i64 q.th.due], blk b3 48 [.int .i64 0, .slice none 0 0], blk b2 50 [.int .i64 q.kind, .int .u64 q.th.id, .int .u64 q.th.gen, .int .i64 q.th.due], blk b1 48 [.int .i64 now, .slice B ((zR X)).length c], rdr B 4 ((zR X).map encRThing), pack L] w') (fun K11 hK11 => ?_) (fun w17 H => ?_)
        · skip
          refine tr_seq (fun K12 hK12 => ?_)
          -- region 12: law.go:39
          refine tr_region ?_
          refine tr_val (ov_fieldAddr rfl Try.underlying50 rfl (Try.sizeOf3 _) (by decide) rfl) rfl rfl rfl ?_
          refine tr_val (ov_load_blk H.get2 rfl (Try.isAgg3 _) rfl rfl rfl) rfl rfl rfl ?_
          refine tr_val (ov_eql rfl rfl rfl) rfl rfl rfl ?_
          refine tr_nil (hK12 _ _ (TrC.keep [76, 14, 69, 42, 28, 8, 7, 6, 5, 4, 0] ?_))
          show TrC _ _ _ _ [(76, _), (14, _), (69, _), (42, _), (28, _), (8, _), (7, _), (6, _), (5, _), (4, _), (0, _)] _ _
          refine tr_cond rfl (fun c76 => ?_) (fun c76 => ?_)
          · skip
            -- region 13: law.go:40
            refine tr_region ?_
            refine tr_val (ov_fieldAddr rfl Try.underlying48 rfl (Try.sizeOf2 _) (by decide) rfl) rfl rfl rfl ?_
            refine tr_val (ov_load_blk H.get3 rfl (Try.isAgg2 _) rfl rfl rfl) rfl rfl rfl ?_
            refine tr_val (ov_fieldAddr rfl Try.underlying30 rfl (Try.sizeOf2 _) (by decide) rfl) rfl rfl rfl ?_
            refine tr_val (ov_load_blk H.get0 rfl (Try.isAgg2 _) rfl rfl rfl) rfl rfl rfl ?_
            refine tr_val (ov_min rfl rfl rfl) rfl rfl rfl ?_
            refine tr_val (ov_max rfl rfl rfl) rfl rfl rfl ?_
            refine tr_val (ov_add rfl rfl rfl (w64 (by omega))) rfl rfl rfl ?_
            refine tr_val (ov_assign rfl rfl) rfl rfl rfl ?_
            exact tr_nil (hK11 _ _ (Sub.consE rfl (congrArg (Value.int .i64) (by unfold toW; exact (if_pos (by omega)).symm)) (Sub.cons rfl (Sub.cons rfl (Sub.cons rfl (Sub.cons rfl (Sub.cons rfl (Sub.cons rfl (Sub.cons rfl (Sub.cons rfl (Sub.cons rfl Sub.nil)))))))))) (H))
          · skip
            exact tr_skip (hK11 _ _ (Sub.consE rfl (congrArg (Value.int .i64) (by unfold toW; exact (if_neg (by omega)).symm)) (Sub.cons rfl (Sub.cons rfl (Sub.cons rfl (Sub.cons rfl (Sub.cons rfl (Sub.cons rfl (Sub.cons rfl (Sub.cons rfl (Sub.cons rfl Sub.nil)))))))))) (H))
        · skip
          obtain ⟨to_, hto⟩ : ∃ x, toW now q = x := ⟨_, rfl⟩
          rw [hto]
          show TrC _ _ _ _ [(14, _), (69, _), (42, _), (28, _), (8, _), (7, _), (6, _), (5, _), (4, _), (0, _)] _ _
          refine tr_seq (fun K13 hK13 => ?_)
          -- region 14: law.go:42
          refine tr_region ?_
          refine tr_val (ov_load_blkN H.get3 rfl (Try.isAgg48 _) (Try.sizeOf48 _) rfl rfl rfl) rfl rfl rfl ?_
          refine tr_val (ov_move rfl rfl) rfl rfl rfl ?_
          refine tr_call (AdvanceR_c B c (zR X) now _ (rdr_rd H.get4) (by omega) hc to_ (upD_z hU)) rfl rfl rfl Try.call66 rfl rfl rfl ?_
          rintro _ w18 ⟨Af, cf, A1, c1, rfl, HN⟩
          obtain ⟨hc1, HC⟩ := HN.own H.get4 hc
          have H := H.top4.call1e HC
          rw [advXR_z, advFR_z hids hU] at H ⊢
          rw [advXR_z] at hc1
          refine tr_val (ov_move rfl rfl) rfl rfl rfl ?_
          refine tr_val (ov_extract rfl rfl rfl) rfl rfl rfl ?_
          refine tr_val (ov_extract rfl rfl rfl) rfl rfl rfl ?_
          refine tr_val (ov_extract rfl rfl rfl) rfl rfl rfl ?_
          refine tr_alloc H rfl (Try.zeroValue48 _) rfl rfl rfl rfl ?_
          intro b5 w19 hb5 H
          (refine tr_storeW H.get0 rfl (Try.sizeOf48 _) rfl rfl rfl rfl rfl rfl rfl rfl ?_; intro w20 U; have H := H.upd0 U; clear U)
          refine tr_val (ov_assign rfl rfl) rfl rfl rfl ?_
          refine tr_val (ov_assign rfl rfl) rfl rfl rfl ?_
          refine tr_nil (hK13 _ _ (TrC.keep [17, 16, 15, 14, 69, 42, 28, 8, 7, 6, 5, 4, 0] ?_))
          show TrC _ _ _ _ [(17, _), (16, _), (15, _), (14, _), (69, _), (42, _), (28, _), (8, _), (7, _), (6, _), (5, _), (4, _), (0, _)] _ _
          refine tr_seq (fun K14 hK14 => ?_)
          -- region 15: law.go:43
          refine tr_region ?_
          refine tr_val (ov_move rfl rfl) rfl rfl rfl ?_
          refine tr_val (ov_move rfl rfl) rfl rfl rfl ?_
          refine tr_call (wAdvance_c d now X L _ hX H.get7 to_) rfl rfl rfl Try.call16 rfl rfl rfl ?_
          rintro _ w21 ⟨A5, c5, rfl, L1, hX1, HC⟩
          have H := H.top7.call1e HC
          have hfl : (advF now to_ X).length ≤ 256 := by unfold advF; split; (rw [(sortT_perm _).length_eq]; exact Nat.le_trans (List.length_filter_le _ _) hfew); simp
          have hzf := zR_len (advF now to_ X)
          refine tr_val (ov_move rfl rfl) rfl rfl rfl ?_
          refine tr_val (ov_extract rfl rfl rfl) rfl rfl rfl ?_
          refine tr_val (ov_extract rfl rfl rfl) rfl rfl rfl ?_
          refine tr_val (ov_assign rfl rfl) rfl rfl rfl ?_
          refine tr_val (ov_assign rfl rfl) rfl rfl rfl ?_
          refine tr_nil (hK14 _ _ (TrC.keep [19, 18, 17, 16, 15, 14, 69, 42, 28, 8, 7, 6, 5, 4, 0] ?_))
          show TrC _ _ _ _ [(19, _), (18, _), (17, _), (16, _), (15, _), (14, _), (69, _), (42, _), (28, _), (8, _), (7, _), (6, _), (5, _), (4, _), (0, _)] _ _
          refine tr_seq (fun K15 hK15 => ?_)
          -- region 16: law.go:44
          refine tr_held (fun w' => (blk b5 48 [.int .i64 (advN now to_), .slice A1 ((zR (advX now to_ X))).length c1]).holds w') mixed rfl H ?_
          intro w22 H
          refine th_take 0 rfl (by kernel_rfl) (by kernel_rfl) (by kernel_rfl) (H.get2) (fun _ hS => ov_load_blkN hS rfl (Try.isAgg48 _) (Try.sizeOf48 _) rfl rfl rfl) rfl rfl rfl ?_
          refine th_take 1 rfl (by kernel_rfl) (by kernel_rfl) (by kernel_rfl) (H.get2) (fun _ hS => ov_move rfl rfl) rfl rfl rfl ?_
          refine th_take 2 rfl (by kernel_rfl) (by kernel_rfl) (by kernel_rfl) (H.get2) (fun _ hS => ov_move rfl rfl) rfl rfl rfl ?_
          refine th_take 3 rfl (by kernel_rfl) (by kernel_rfl) (by kernel_rfl) (H.get2) (fun _ hS => ov_eql rfl rfl rfl) rfl rfl rfl ?_
          refine th_take 4 rfl (by kernel_rfl) (by kernel_rfl) (by kernel_rfl) (H.get2) (fun _ hS => ov_move rfl rfl) rfl rfl rfl ?_
          refine th_split (t := 101) rfl (fun s101 => ?_) (fun s101 => ?_)
          · skip
            refine th_take 5 rfl (by kernel_rfl) (by kernel_rfl) (by kernel_rfl) (H.get2) (fun _ hS => ov_move rfl rfl) rfl rfl rfl ?_
            refine th_take 6 rfl (by kernel_rfl) (by kernel_rfl) (by kernel_rfl) (H.get2) (fun _ hS => ov_move rfl rfl) rfl rfl rfl ?_
            refine th_one 7 (by kernel_rfl) ?_
            refine tw_call (Same_c A5 c5 (advF now to_ X) _ (vec_rd H.get0 lenThing (by decide)) (by omega) Af cf (zR (advF now to_ X)) (vec_rd H.get4 lenRThing (by decide)) (by omega)) rfl rfl rfl rfl Try.call25 rfl rfl rfl ?_
            rintro _ w23 ⟨rfl, HC⟩
            have H := H.call0n HC
            refine ⟨H.get2, ?_⟩
            refine th_take 8 rfl (by kernel_rfl) (by kernel_rfl) (by kernel_rfl) (H.get2) (fun _ hS => ov_pick (vb := undef) rfl rfl rfl rfl) rfl rfl rfl ?_
            refine th_one 9 (by kernel_rfl) ?_
            (refine tw_storeW H.get6 rfl rfl (Try.sizeOf48 _) rfl rfl rfl rfl rfl rfl rfl rfl ?_; intro w24 U; have H := H.upd6 U; clear U)
            refine ⟨H.get2, ?_⟩
            refine th_take 10 rfl (by kernel_rfl) (by kernel_rfl) (by kernel_rfl) (H.get2) (fun _ hS => ov_assign rfl rfl) rfl rfl rfl ?_
            refine th_done (by kernel_rfl) ?_
            refine hK15 _ _ (TrC.keep [7, 15, 14, 69, 42, 28, 8, 6, 5, 4, 0] ?_)
            show TrC _ _ _ _ [(7, _), (15, _), (14, _), (69, _), (42, _), (28, _), (8, _), (6, _), (5, _), (4, _), (0, _)] _ _
            refine tr_ret (post_ret2 (.inr rfl) rfl (by exact ⟨_, rfl, res_blkN H.get6 (Try.isAgg48 _) (Try.sizeOf48 _) rfl rfl⟩) rfl ?_)
            (have eN : stN now q = advN now to_ := (by unfold stN; rw [if_pos (by omega), hto]); have eX : stX now X q = advX now to_ X := (by unfold stX; rw [if_neg (by omega), if_pos (by omega), hto]); rw [eN, eX]; exact ⟨A1, c1, tup_t (decide_eq_true (zR_plain _).symm), hc1, L1, hX1, H.drop0.drop1.drop2.drop2.drop2.drop2.drop2.top1⟩)
          · exact absurd rfl s101
      · skip
        refine tr_seq (fun K16 hK16 => ?_)
        -- region 17: law.go:45
        refine tr_region ?_
        refine tr_val (ov_eql rfl rfl rfl) rfl rfl rfl ?_
        refine tr_val (ov_assign rfl rfl) rfl rfl rfl ?_
        refine tr_nil (hK16 _ _ (TrC.keep [106, 69, 42, 28, 8, 7, 6, 5, 4, 0] ?_))
        show TrC _ _ _ _ [(106, _), (69, _), (42, _), (28, _), (8, _), (7, _), (6, _), (5, _), (4, _), (0, _)] _ _
        refine tr_cond rfl (fun c106 => ?_) (fun c106 => ?_)
        · skip
          refine tr_seq (fun K17 hK17 => ?_)
          -- region 18: law.go:46
          refine tr_region ?_
          refine tr_val (ov_move rfl rfl) rfl rfl rfl ?_
          refine tr_val (ov_fieldAddr rfl Try.underlying30 rfl (Try.sizeOf28 _) (by decide) rfl) rfl rfl rfl ?_
          refine tr_val (ov_load_blk H.get0 rfl (Try.isAgg28 _) rfl rfl rfl) rfl rfl rfl ?_
          refine tr_call (wGet_c d now X L _ hX H.get5 q.th.id) rfl rfl rfl Try.call27 rfl rfl rfl ?_
          rintro _ w25 ⟨rfl, HC⟩
          have H := H.call0n HC
          refine tr_val (ov_move rfl rfl) rfl rfl rfl ?_
          refine tr_val (ov_extract rfl rfl rfl) rfl rfl rfl ?_
          refine tr_val (ov_extract rfl rfl rfl) rfl rfl rfl ?_
          refine tr_alloc H rfl (Try.zeroValue30 _) rfl rfl rfl rfl ?_
          intro b5 w26 hb5 H
          (refine tr_storeW H.get0 rfl (Try.sizeOf30 _) rfl rfl rfl rfl rfl rfl rfl rfl ?_; intro w27 U; have H := H.upd0 U; clear U)
          refine tr_val (ov_assign rfl rfl) rfl rfl rfl ?_
          refine tr_nil (hK17 _ _ (TrC.keep [21, 20, 106, 69, 42, 28, 8, 7, 6, 5, 4, 0] ?_))
          show TrC _ _ _ _ [(21, _), (20, _), (106, _), (69, _), (42, _), (28, _), (8, _), (7, _), (6, _), (5, _), (4, _), (0, _)] _ _
          refine tr_seq (fun K18 hK18 => ?_)
          -- region 19: law.go:47
          refine tr_region ?_
          refine tr_val (ov_fieldAddr rfl Try.underlying48 rfl (Try.sizeOf46 _) (by decide) rfl) rfl rfl rfl ?_
          refine tr_val (ov_load_blk H.get4 rfl (Try.isAgg46 _) rfl rfl rfl) rfl rfl rfl ?_
          refine tr_val (ov_fieldAddr rfl Try.underlying30 rfl (Try.sizeOf28 _) (by decide) rfl) rfl rfl rfl ?_
          refine tr_val (ov_load_blk H.get1 rfl (Try.isAgg28 _) rfl rfl rfl) rfl rfl rfl ?_
          refine tr_call (FindR_c B c (zR X) _ (rdr_rd H.get5) (by omega) q.th.id) rfl rfl rfl Try.call67 rfl rfl rfl ?_
          rintro _ w28 ⟨rfl, HC⟩
          have H := H.call0n HC
          refine tr_val (ov_assign rfl rfl) rfl rfl rfl ?_
          refine tr_nil (hK18 _ _ (TrC.keep [22, 21, 20, 106, 69, 42, 28, 8, 7, 6, 5, 4, 0] ?_))
          show TrC _ _ _ _ [(22, _), (21, _), (20, _), (106, _), (69, _), (42, _), (28, _), (8, _), (7, _), (6, _), (5, _), (4, _), (0, _)] _ _
          refine tr_seq (fun K19 hK19 => ?_)
          -- region 20: law.go:48
          have hi1 := idx_lt q.th.id (zR X)
          refine tr_held (fun w' => (blk b5 30 [.int .u64 (tOr (findT q.th.id X)).id, .int .u64 (tOr (findT q.th.id X)).gen, .int .i64 (tOr (findT q.th.id X)).due]).holds w' ∧ (blk b1 48 [.int .i64 now, .slice B ((zR X)).length c]).holds w' ∧ (rdr B 4 ((zR X).map encRThing)).holds w') mixed rfl H ?_
          intro w29 H
          refine th_take 0 rfl (by kernel_rfl) (by kernel_rfl) (by kernel_rfl) (⟨H.get0, H.get4, H.get5⟩) (fun _ hS => ov_load_blkN hS.2.1 rfl (Try.isAgg48 _) (Try.sizeOf48 _) rfl rfl rfl) rfl rfl rfl ?_
          refine th_take 1 rfl (by kernel_rfl) (by kernel_rfl) (by kernel_rfl) (⟨H.get0, H.get4, H.get5⟩) (fun _ hS => ov_move rfl rfl) rfl rfl rfl ?_
          refine th_take 2 rfl (by kernel_rfl) (by kernel_rfl) (by kernel_rfl) (⟨H.get0, H.get4, H.get5⟩) (fun _ hS => ov_move rfl rfl) rfl rfl rfl ?_
          refine th_take 3 rfl (by kernel_rfl) (by kernel_rfl) (by kernel_rfl) (⟨H.get0, H.get4, H.get5⟩) (fun _ hS => ov_geq rfl rfl rfl) rfl rfl rfl ?_
          refine th_take 4 rfl (by kernel_rfl) (by kernel_rfl) (by kernel_rfl) (⟨H.get0, H.get4, H.get5⟩) (fun _ hS => ov_eqlb rfl Try.underlying4 rfl rfl) rfl rfl rfl ?_
          refine th_take 5 rfl (by kernel_rfl) (by kernel_rfl) (by kernel_rfl) (⟨H.get0, H.get4, H.get5⟩) (fun _ hS => ov_move rfl rfl) rfl rfl rfl ?_
          refine th_split (t := 125) rfl (fun s125 => ?_) (fun s125 => ?_)
          · skip
            refine th_take 6 rfl (by kernel_rfl) (by kernel_rfl) (by kernel_rfl) (⟨H.get0, H.get4, H.get5⟩) (fun _ hS => ov_move rfl rfl) rfl rfl rfl ?_
            refine th_take 7 rfl (by kernel_rfl) (by kernel_rfl) (by kernel_rfl) (⟨H.get0, H.get4, H.get5⟩) (fun _ hS => ov_lss rfl rfl rfl) rfl rfl rfl ?_
            refine th_take 8 rfl (by kernel_rfl) (by kernel_rfl) (by kernel_rfl) (⟨H.get0, H.get4, H.get5⟩) (fun _ hS => ov_move rfl rfl) rfl rfl rfl ?_
            refine th_split (t := 128) rfl (fun s128 => ?_) (fun s128 => ?_)
            · skip
              refine th_take 9 rfl (by kernel_rfl) (by kernel_rfl) (by kernel_rfl) (⟨H.get0, H.get4, H.get5⟩) (fun _ hS => ov_load_blkN hS.1 rfl (Try.isAgg30 _) (Try.sizeOf30 _) rfl rfl rfl) rfl rfl rfl ?_
              refine th_take 10 rfl (by kernel_rfl) (by kernel_rfl) (by kernel_rfl) (⟨H.get0, H.get4, H.get5⟩) (fun _ hS => ov_build rfl (fun ρ k => bs0 k) (bld30 _)) rfl rfl rfl ?_
              refine th_take 11 rfl (by kernel_rfl) (by kernel_rfl) (by kernel_rfl) (⟨H.get0, H.get4, H.get5⟩) (fun _ hS => ov_eqTh (s := tOr (findT q.th.id X)) (t := ⟨0, 0, 0⟩) rfl rfl rfl) rfl rfl rfl ?_
              refine th_take 12 rfl (by kernel_rfl) (by kernel_rfl) (by kernel_rfl) (⟨H.get0, H.get4, H.get5⟩) (fun _ hS => ov_pick (vb := undef) rfl rfl rfl rfl) rfl rfl rfl ?_
              refine th_take 13 rfl (by kernel_rfl) (by kernel_rfl) (by kernel_rfl) (⟨H.get0, H.get4, H.get5⟩) (fun _ hS => ov_move rfl rfl) rfl rfl rfl ?_
              refine th_split (t := 133) rfl (fun s133 => ?_) (fun s133 => ?_)
              · skip
                refine th_pass 14 rfl (by kernel_rfl) (by kernel_rfl) (by kernel_rfl) (⟨H.get0, H.get4, H.get5⟩) rfl rfl rfl ?_
                refine th_pass 15 rfl (by kernel_rfl) (by kernel_rfl) (by kernel_rfl) (⟨H.get0, H.get4, H.get5⟩) rfl rfl rfl ?_
                refine th_pass 16 rfl (by kernel_rfl) (by kernel_rfl) (by kernel_rfl) (⟨H.get0, H.get4, H.get5⟩) rfl rfl rfl ?_
                refine th_pass 17 rfl (by kernel_rfl) (by kernel_rfl) (by kernel_rfl) (⟨H.get0, H.get4, H.get5⟩) rfl rfl rfl ?_
                refine th_pass 18 rfl (by kernel_rfl) (by kernel_rfl) (by kernel_rfl) (⟨H.get0, H.get4, H.get5⟩) rfl rfl rfl ?_
                refine th_pass 19 rfl (by kernel_rfl) (by kernel_rfl) (by kernel_rfl) (⟨H.get0, H.get4, H.get5⟩) rfl rfl rfl ?_
                refine th_pass 20 rfl (by kernel_rfl) (by kernel_rfl) (by kernel_rfl) (⟨H.get0, H.get4, H.get5⟩) rfl rfl rfl ?_
                refine th_pass 21 rfl (by kernel_rfl) (by kernel_rfl) (by kernel_rfl) (⟨H.get0, H.get4, H.get5⟩) rfl rfl rfl ?_
                refine th_pass 22 rfl (by kernel_rfl) (by kernel_rfl) (by kernel_rfl) (⟨H.get0, H.get4, H.get5⟩) rfl rfl rfl ?_
                refine th_pass 23 rfl (by kernel_rfl) (by kernel_rfl) (by kernel_rfl) (⟨H.get0, H.get4, H.get5⟩) rfl rfl rfl ?_
                refine th_pass 24 rfl (by kernel_rfl) (by kernel_rfl) (by kernel_rfl) (⟨H.get0, H.get4, H.get5⟩) rfl rfl rfl ?_
                refine th_pass 25 rfl (by kernel_rfl) (by kernel_rfl) (by kernel_rfl) (⟨H.get0, H.get4, H.get5⟩) rfl rfl rfl ?_
                refine th_take 26 rfl (by kernel_rfl) (by kernel_rfl) (by kernel_rfl) (⟨H.get0, H.get4, H.get5⟩) (fun _ hS => ov_pick (vb := undef) rfl rfl rfl rfl) rfl rfl rfl ?_
                refine th_take 27 rfl (by kernel_rfl) (by kernel_rfl) (by kernel_rfl) (⟨H.get0, H.get4, H.get5⟩) (fun _ hS => ov_pick (vb := undef) rfl rfl rfl rfl) rfl rfl rfl ?_
                refine th_one 28 (by kernel_rfl) ?_
                (refine tw_storeW H.get2 rfl rfl (Try.sizeOf48 _) rfl rfl rfl rfl rfl rfl rfl rfl ?_; intro w30 U; have H := H.upd2 U; clear U)
                refine ⟨⟨H.get0, H.get4, H.get5⟩, ?_⟩
                refine th_take 29 rfl (by kernel_rfl) (by kernel_rfl) (by kernel_rfl) (⟨H.get0, H.get4, H.get5⟩) (fun _ hS => ov_assign rfl rfl) rfl rfl rfl ?_
                refine th_done (by kernel_rfl) ?_
                refine hK19 _ _ (TrC.keep [7, 20, 106, 69, 42, 28, 8, 6, 5, 4, 0] ?_)
                show TrC _ _ _ _ [(7, _), (20, _), (106, _), (69, _), (42, _), (28, _), (8, _), (6, _), (5, _), (4, _), (0, _)] _ _
                refine tr_ret (post_ret2 (.inr rfl) rfl (by exact ⟨_, rfl, res_blkN H.get2 (Try.isAgg48 _) (Try.sizeOf48 _) rfl rfl⟩) rfl ?_)
                (have eN : stN now q = now := (by unfold stN; rw [if_neg (by omega)]); have eX : stX now X q = X := (by unfold stX; rw [if_neg (by omega), if_neg (by omega), if_pos (by omega)]); rw [eN, eX]; exact ⟨B, c, tup_t (rfl), hc, L, hX, H.drop0.drop0.drop0.drop0.drop0⟩)
              · exact absurd (tOr_neg s128) s133
            · skip
              refine th_pass 9 rfl (by kernel_rfl) (by kernel_rfl) (by kernel_rfl) (⟨H.get0, H.get4, H.get5⟩) rfl rfl rfl ?_
              refine th_pass 10 rfl (by kernel_rfl) (by kernel_rfl) (by kernel_rfl) (⟨H.get0, H.get4, H.get5⟩) rfl rfl rfl ?_
              refine th_pass 11 rfl (by kernel_rfl) (by kernel_rfl) (by kernel_rfl) (⟨H.get0, H.get4, H.get5⟩) rfl rfl rfl ?_
              refine th_take 12 rfl (by kernel_rfl) (by kernel_rfl) (by kernel_rfl) (⟨H.get0, H.get4, H.get5⟩) (fun _ hS => ov_pick_f (va := undef) rfl rfl rfl rfl) rfl rfl rfl ?_
              refine th_take 13 rfl (by kernel_rfl) (by kernel_rfl) (by kernel_rfl) (⟨H.get0, H.get4, H.get5⟩) (fun _ hS => ov_move rfl rfl) rfl rfl rfl ?_
              refine th_take 14 rfl (by kernel_rfl) (by kernel_rfl) (by kernel_rfl) (⟨H.get0, H.get4, H.get5⟩) (fun _ hS => ov_move rfl rfl) rfl rfl rfl ?_
              refine th_take 15 rfl (by kernel_rfl) (by kernel_rfl) (by kernel_rfl) (⟨H.get0, H.get4, H.get5⟩) (fun _ hS => ov_geq rfl rfl rfl) rfl rfl rfl ?_
              refine th_take 16 rfl (by kernel_rfl) (by kernel_rfl) (by kernel_rfl) (⟨H.get0, H.get4, H.get5⟩) (fun _ hS => ov_move rfl rfl) rfl rfl rfl ?_
              refine th_split (t := 136) rfl (fun s136 => ?_) (fun s136 => ?_)
              · skip
                refine th_take 17 rfl (by kernel_rfl) (by kernel_rfl) (by kernel_rfl) (⟨H.get0, H.get4, H.get5⟩) (fun _ hS => ov_load_blkN hS.1 rfl (Try.isAgg30 _) (Try.sizeOf30 _) rfl rfl rfl) rfl rfl rfl ?_
                refine th_take 19 rfl (by kernel_rfl) (by kernel_rfl) (by kernel_rfl) (⟨H.get0, H.get4, H.get5⟩) (fun _ hS => ov_fieldAddr rfl Try.underlying48 rfl (Try.sizeOf46 _) (by decide) rfl) rfl rfl rfl ?_
                refine th_take 20 rfl (by kernel_rfl) (by kernel_rfl) (by kernel_rfl) (⟨H.get0, H.get4, H.get5⟩) (fun _ hS => ov_load_blk hS.2.1 rfl (Try.isAgg46 _) rfl rfl rfl) rfl rfl rfl ?_
                refine th_take 21 rfl (by kernel_rfl) (by kernel_rfl) (by kernel_rfl) (⟨H.get0, H.get4, H.get5⟩) (fun _ hS => ov_move rfl rfl) rfl rfl rfl ?_
                refine th_take 22 rfl (by kernel_rfl) (by kernel_rfl) (by kernel_rfl) (⟨H.get0, H.get4, H.get5⟩) (fun _ hS => ov_indexAddrR (rdr_rd hS.2.2) rfl Try.underlying46 (Try.sizeOf59 _) rfl rfl (by omega) hi1) rfl rfl rfl ?_
                refine th_take 23 rfl (by kernel_rfl) (by kernel_rfl) (by kernel_rfl) (⟨H.get0, H.get4, H.get5⟩) (fun _ hS => ld_RThing (rdr_rd hS.2.2) rfl (Try.isAgg59 _) (Try.sizeOf59 _) rfl (by omega) hi1) rfl rfl rfl ?_
                refine th_one 18 (by kernel_rfl) ?_
                refine tw_call (Plain_c (tOr (findT q.th.id X)) _) rfl rfl rfl rfl Try.call65 rfl rfl rfl ?_
                rintro _ w31 ⟨rfl, HC⟩
                have H := H.call0n HC
                refine ⟨⟨H.get0, H.get4, H.get5⟩, ?_⟩
                refine th_take 24 rfl (by kernel_rfl) (by kernel_rfl) (by kernel_rfl) (⟨H.get0, H.get4, H.get5⟩) (fun _ hS => ov_eqRT (s := toR (tOr (findT q.th.id X)) 0) (t := gt (zR X) (idxR q.th.id (zR X))) rfl rfl rfl) rfl rfl rfl ?_
                refine th_take 25 rfl (by kernel_rfl) (by kernel_rfl) (by kernel_rfl) (⟨H.get0, H.get4, H.get5⟩) (fun _ hS => ov_pick (vb := undef) rfl rfl rfl rfl) rfl rfl rfl ?_
                refine th_take 26 rfl (by kernel_rfl) (by kernel_rfl) (by kernel_rfl) (⟨H.get0, H.get4, H.get5⟩) (fun _ hS => ov_pick_f (va := undef) rfl rfl rfl rfl) rfl rfl rfl ?_
                refine th_take 27 rfl (by kernel_rfl) (by kernel_rfl) (by kernel_rfl) (⟨H.get0, H.get4, H.get5⟩) (fun _ hS => ov_pick (vb := undef) rfl rfl rfl rfl) rfl rfl rfl ?_
                refine th_one 28 (by kernel_rfl) ?_
                (refine tw_storeW H.get2 rfl rfl (Try.sizeOf48 _) rfl rfl rfl rfl rfl rfl rfl rfl ?_; intro w32 U; have H := H.upd2 U; clear U)
                refine ⟨⟨H.get0, H.get4, H.get5⟩, ?_⟩
                refine th_take 29 rfl (by kernel_rfl) (by kernel_rfl) (by kernel_rfl) (⟨H.get0, H.get4, H.get5⟩) (fun _ hS => ov_assign rfl rfl) rfl rfl rfl ?_
                refine th_done (by kernel_rfl) ?_
                refine hK19 _ _ (TrC.keep [7, 20, 106, 69, 42, 28, 8, 6, 5, 4, 0] ?_)
                show TrC _ _ _ _ [(7, _), (20, _), (106, _), (69, _), (42, _), (28, _), (8, _), (6, _), (5, _), (4, _), (0, _)] _ _
                refine tr_ret (post_ret2 (.inr rfl) rfl (by exact ⟨_, rfl, res_blkN H.get2 (Try.isAgg48 _) (Try.sizeOf48 _) rfl rfl⟩) rfl ?_)
                (have eN : stN now q = now := (by unfold stN; rw [if_neg (by omega)]); have eX : stX now X q = X := (by unfold stX; rw [if_neg (by omega), if_neg (by omega), if_pos (by omega)]); rw [eN, eX]; exact ⟨B, c, tup_t (decide_eq_true (get_pos s128)), hc, L, hX, H.drop0.drop0.drop0.drop0.drop0⟩)
              · exfalso; omega
          · exact absurd (beq_iff_eq.mp (get_idx q.th.id X)) s125
        · skip
          refine tr_seq (fun K20 hK20 => ?_)
          -- region 3: law.go:50
          refine tr_held (fun w' => (blk b1 48 [.int .i64 now, .slice B ((zR X)).length c]).holds w' ∧ (blk b4 30 [.int .u64 q.th.id, .int .u64 q.th.gen, .int .i64 q.th.due]).holds w') mixed rfl H ?_
          intro w33 H
          refine th_take 0 rfl (by kernel_rfl) (by kernel_rfl) (by kernel_rfl) ((by exact ⟨H.get3, H.get0⟩)) (fun _ hS => ov_load_blkN hS.1 rfl (Try.isAgg48 _) (Try.sizeOf48 _) rfl rfl rfl) rfl rfl rfl ?_
          refine th_take 1 rfl (by kernel_rfl) (by kernel_rfl) (by kernel_rfl) ((by exact ⟨H.get3, H.get0⟩)) (fun _ hS => ov_load_blkN hS.2 rfl (Try.isAgg30 _) (Try.sizeOf30 _) rfl rfl rfl) rfl rfl rfl ?_
          refine th_two 2 7 (by kernel_rfl) ?_ ?_
          · skip
            refine tw_call (Plain_c q.th _) rfl rfl rfl rfl Try.call65 rfl rfl rfl ?_
            rintro _ w34 ⟨rfl, HC⟩
            have H := H.call0n HC
            refine ⟨(by exact ⟨H.get3, H.get0⟩), ?_⟩
            refine th_two 3 7 (by kernel_rfl) ?_ ?_
            · skip
              refine tw_call (ArmR_c B c (zR X) now _ (rdr_rd (by exact H.get4)) (by omega) (toR q.th 0)) rfl rfl rfl rfl Try.call68 rfl rfl rfl ?_
              rintro _ w35 ⟨A1, c1, rfl, HN⟩
              obtain ⟨hc1, HC⟩ := HN.own (by exact H.get4) hc
              (have H := H.top4.call1 HC)
              rw [armR_z] at H hc1 ⊢
              refine ⟨(by exact ⟨H.get4, H.get1⟩), ?_⟩
              refine th_take 4 rfl (by kernel_rfl) (by kernel_rfl) (by kernel_rfl) ((by exact ⟨H.get4, H.get1⟩)) (fun _ hS => ov_move rfl rfl) rfl rfl rfl ?_
              refine th_take 5 rfl (by kernel_rfl) (by kernel_rfl) (by kernel_rfl) ((by exact ⟨H.get4, H.get1⟩)) (fun _ hS => ov_extract rfl rfl rfl) rfl rfl rfl ?_
              refine th_take 6 rfl (by kernel_rfl) (by kernel_rfl) (by kernel_rfl) ((by exact ⟨H.get4, H.get1⟩)) (fun _ hS => ov_extract rfl rfl rfl) rfl rfl rfl ?_
              refine th_one 7 (by kernel_rfl) ?_
              refine tw_alloc H rfl rfl (Try.zeroValue48 _) rfl rfl rfl rfl ?_
              intro b5 w36 hb5 H
              refine ⟨(by exact ⟨H.get5, H.get2⟩), ?_⟩
              refine th_one 8 (by kernel_rfl) ?_
              (refine tw_storeW H.get0 rfl rfl (Try.sizeOf48 _) rfl rfl rfl rfl rfl rfl rfl rfl ?_; intro w37 U; have H := H.upd0 U; clear U)
              refine ⟨(by exact ⟨H.get5, H.get2⟩), ?_⟩
              refine th_take 9 rfl (by kernel_rfl) (by kernel_rfl) (by kernel_rfl) ((by exact ⟨H.get5, H.get2⟩)) (fun _ hS => ov_assign rfl rfl) rfl rfl rfl ?_
              refine th_done (by kernel_rfl) ?_
              refine hK20 _ _ (TrC.keep [24, 23, 106, 69, 42, 28, 8, 7, 6, 5, 4, 0] ?_)
              show TrC _ _ _ _ [(24, _), (23, _), (106, _), (69, _), (42, _), (28, _), (8, _), (7, _), (6, _), (5, _), (4, _), (0, _)] _ _
              refine tr_seq (fun K21 hK21 => ?_)
              -- region 4: law.go:51
              refine tr_held (fun w' => (blk b5 48 [.int .i64 now, .slice A1 ((zR (if (armV X q.th).2 = 0 then sortT (X ++ [q.th]) else X))).length c1]).holds w' ∧ (blk b4 30 [.int .u64 q.th.id, .int .u64 q.th.gen, .int .i64 q.th.due]).holds w') mixed rfl H ?_
              intro w38 H
              refine th_take 0 rfl (by kernel_rfl) (by kernel_rfl) (by kernel_rfl) ((by exact ⟨H.get0, H.get2⟩)) (fun _ hS => ov_load_blkN hS.1 rfl (Try.isAgg48 _) (Try.sizeOf48 _) rfl rfl rfl) rfl rfl rfl ?_
              refine th_take 1 rfl (by kernel_rfl) (by kernel_rfl) (by kernel_rfl) ((by exact ⟨H.get0, H.get2⟩)) (fun _ hS => ov_move rfl rfl) rfl rfl rfl ?_
              refine th_take 2 rfl (by kernel_rfl) (by kernel_rfl) (by kernel_rfl) ((by exact ⟨H.get0, H.get2⟩)) (fun _ hS => ov_load_blkN hS.2 rfl (Try.isAgg30 _) (Try.sizeOf30 _) rfl rfl rfl) rfl rfl rfl ?_
              refine th_take 4 rfl (by kernel_rfl) (by kernel_rfl) (by kernel_rfl) ((by exact ⟨H.get0, H.get2⟩)) (fun _ hS => ov_move rfl rfl) rfl rfl rfl ?_
              refine th_one 3 (by kernel_rfl) ?_
              refine tw_call (wArm_c d now X L _ hX H.get6 q.th) rfl rfl rfl rfl Try.call15 rfl rfl rfl ?_
              rintro _ w39 ⟨rfl, L1, hX1, HC⟩
              have H := H.top6.call1 HC
              refine ⟨(by exact ⟨H.get1, H.get3⟩), ?_⟩
              refine th_take 5 rfl (by kernel_rfl) (by kernel_rfl) (by kernel_rfl) ((by exact ⟨H.get1, H.get3⟩)) (fun _ hS => ov_eql rfl rfl rfl) rfl rfl rfl ?_
              refine th_one 6 (by kernel_rfl) ?_
              (refine tw_storeW H.get4 rfl rfl (Try.sizeOf48 _) rfl rfl rfl rfl rfl rfl rfl rfl ?_; intro w40 U; have H := H.upd4 U; clear U)
              refine ⟨(by exact ⟨H.get1, H.get3⟩), ?_⟩
              refine th_take 7 rfl (by kernel_rfl) (by kernel_rfl) (by kernel_rfl) ((by exact ⟨H.get1, H.get3⟩)) (fun _ hS => ov_assign rfl rfl) rfl rfl rfl ?_
              refine th_done (by kernel_rfl) ?_
              refine hK21 _ _ (TrC.keep [7, 23, 106, 69, 42, 28, 8, 6, 5, 4, 0] ?_)
              show TrC _ _ _ _ [(7, _), (23, _), (106, _), (69, _), (42, _), (28, _), (8, _), (6, _), (5, _), (4, _), (0, _)] _ _
              refine tr_ret (post_ret2 (.inr rfl) rfl (by exact ⟨_, rfl, res_blkN H.get4 (Try.isAgg48 _) (Try.sizeOf48 _) rfl rfl⟩) rfl ?_)
              (have eN : stN now q = now := (by unfold stN; rw [if_neg (by omega)]); have eX : stX now X q = (if (armV X q.th).2 = 0 then sortT (X ++ [q.th]) else X) := (by unfold stX; rw [if_neg (by omega), if_neg (by omega), if_neg (by omega)]); rw [eN, eX]; exact ⟨A1, c1, tup_t (decide_eq_true rfl), hc1, L1, wheelX_perm hX1 (arm_perm X q.th), by exact H.drop1.drop2.drop2.drop2.drop2.top1⟩)
            · skip
              refine tw_alloc H rfl rfl (Try.zeroValue48 _) rfl rfl rfl rfl ?_
              intro b5 w41 hb5 H
              refine ⟨(by exact ⟨H.get4, H.get1⟩), ?_⟩
              refine th_one 3 (by kernel_rfl) ?_
              refine tw_call (ArmR_c B c (zR X) now _ (rdr_rd (by exact H.get5)) (by omega) (toR q.th 0)) rfl rfl rfl rfl Try.call68 rfl rfl rfl ?_
              rintro _ w42 ⟨A1, c1, rfl, HN⟩
              obtain ⟨hc1, HC⟩ := HN.own (by exact H.get5) hc
              (have H := H.top5.call1 HC)
              rw [armR_z] at H hc1 ⊢
              refine ⟨(by exact ⟨H.get5, H.get2⟩), ?_⟩
              refine th_take 4 rfl (by kernel_rfl) (by kernel_rfl) (by kernel_rfl) ((by exact ⟨H.get5, H.get2⟩)) (fun _ hS => ov_move rfl rfl) rfl rfl rfl ?_
              refine th_take 5 rfl (by kernel_rfl) (by kernel_rfl) (by kernel_rfl) ((by exact ⟨H.get5, H.get2⟩)) (fun _ hS => ov_extract rfl rfl rfl) rfl rfl rfl ?_
              refine th_take 6 rfl (by kernel_rfl) (by kernel_rfl) (by kernel_rfl) ((by exact ⟨H.get5, H.get2⟩)) (fun _ hS => ov_extract rfl rfl rfl) rfl rfl rfl ?_
              refine th_one 8 (by kernel_rfl) ?_
              (refine tw_storeW H.get1 rfl rfl (Try.sizeOf48 _) rfl rfl rfl rfl rfl rfl rfl rfl ?_; intro w43 U; have H := H.upd1 U; clear U)
              refine ⟨(by exact ⟨H.get5, H.get2⟩), ?_⟩
              refine th_take 9 rfl (by kernel_rfl) (by kernel_rfl) (by kernel_rfl) ((by exact ⟨H.get5, H.get2⟩)) (fun _ hS => ov_assign rfl rfl) rfl rfl rfl ?_
              refine th_done (by kernel_rfl) ?_
              refine hK20 _ _ (TrC.keep [24, 23, 106, 69, 42, 28, 8, 7, 6, 5, 4, 0] ?_)
              show TrC _ _ _ _ [(24, _), (23, _), (106, _), (69, _), (42, _), (28, _), (8, _), (7, _), (6, _), (5, _), (4, _), (0, _)] _ _
              refine tr_seq (fun K22 hK22 => ?_)
              -- region 4: law.go:51
              refine tr_held (fun w' => (blk b5 48 [.int .i64 now, .slice A1 ((zR (if (armV X q.th).2 = 0 then sortT (X ++ [q.th]) else X))).length c1]).holds w' ∧ (blk b4 30 [.int .u64 q.th.id, .int .u64 q.th.gen, .int .i64 q.th.due]).holds w') mixed rfl H ?_
              intro w44 H
              refine th_take 0 rfl (by kernel_rfl) (by kernel_rfl) (by kernel_rfl) ((by exact ⟨H.get1, H.get2⟩)) (fun _ hS => ov_load_blkN hS.1 rfl (Try.isAgg48 _) (Try.sizeOf48 _) rfl rfl rfl) rfl rfl rfl ?_
              refine th_take 1 rfl (by kernel_rfl) (by kernel_rfl) (by kernel_rfl) ((by exact ⟨H.get1, H.get2⟩)) (fun _ hS => ov_move rfl rfl) rfl rfl rfl ?_
              refine th_take 2 rfl (by kernel_rfl) (by kernel_rfl) (by kernel_rfl) ((by exact ⟨H.get1, H.get2⟩)) (fun _ hS => ov_load_blkN hS.2 rfl (Try.isAgg30 _) (Try.sizeOf30 _) rfl rfl rfl) rfl rfl rfl ?_
              refine th_take 4 rfl (by kernel_rfl) (by kernel_rfl) (by kernel_rfl) ((by exact ⟨H.get1, H.get2⟩)) (fun _ hS => ov_move rfl rfl) rfl rfl rfl ?_
              refine th_one 3 (by kernel_rfl) ?_
              refine tw_call (wArm_c d now X L _ hX H.get6 q.th) rfl rfl rfl rfl Try.call15 rfl rfl rfl ?_
              rintro _ w45 ⟨rfl, L1, hX1, HC⟩
              have H := H.top6.call1 HC
              refine ⟨(by exact ⟨H.get2, H.get3⟩), ?_⟩
              refine th_take 5 rfl (by kernel_rfl) (by kernel_rfl) (by kernel_rfl) ((by exact ⟨H.get2, H.get3⟩)) (fun _ hS => ov_eql rfl rfl rfl) rfl rfl rfl ?_
              refine th_one 6 (by kernel_rfl) ?_
              (refine tw_storeW H.get4 rfl rfl (Try.sizeOf48 _) rfl rfl rfl rfl rfl rfl rfl rfl ?_; intro w46 U; have H := H.upd4 U; clear U)
              refine ⟨(by exact ⟨H.get2, H.get3⟩), ?_⟩
              refine th_take 7 rfl (by kernel_rfl) (by kernel_rfl) (by kernel_rfl) ((by exact ⟨H.get2, H.get3⟩)) (fun _ hS => ov_assign rfl rfl) rfl rfl rfl ?_
              refine th_done (by kernel_rfl) ?_
              refine hK22 _ _ (TrC.keep [7, 23, 106, 69, 42, 28, 8, 6, 5, 4, 0] ?_)
              show TrC _ _ _ _ [(7, _), (23, _), (106, _), (69, _), (42, _), (28, _), (8, _), (6, _), (5, _), (4, _), (0, _)] _ _
              refine tr_ret (post_ret2 (.inr rfl) rfl (by exact ⟨_, rfl, res_blkN H.get4 (Try.isAgg48 _) (Try.sizeOf48 _) rfl rfl⟩) rfl ?_)
              (have eN : stN now q = now := (by unfold stN; rw [if_neg (by omega)]); have eX : stX now X q = (if (armV X q.th).2 = 0 then sortT (X ++ [q.th]) else X) := (by unfold stX; rw [if_neg (by omega), if_neg (by omega), if_neg (by omega)]); rw [eN, eX]; exact ⟨A1, c1, tup_t (decide_eq_true rfl), hc1, L1, wheelX_perm hX1 (arm_perm X q.th), by exact H.drop2.drop2.drop2.drop2.drop2.top1⟩)
          · skip
            refine tw_alloc H rfl rfl (Try.zeroValue48 _) rfl rfl rfl rfl ?_
            intro b5 w47 hb5 H
            refine ⟨(by exact ⟨H.get4, H.get1⟩), ?_⟩
            refine th_one 2 (by kernel_rfl) ?_
            refine tw_call (Plain_c q.th _) rfl rfl rfl rfl Try.call65 rfl rfl rfl ?_
            rintro _ w48 ⟨rfl, HC⟩
            have H := H.call0n HC
            refine ⟨(by exact ⟨H.get4, H.get1⟩), ?_⟩
            refine th_one 3 (by kernel_rfl) ?_
            refine tw_call (ArmR_c B c (zR X) now _ (rdr_rd (by exact H.get5)) (by omega) (toR q.th 0)) rfl rfl rfl rfl Try.call68 rfl rfl rfl ?_
            rintro _ w49 ⟨A1, c1, rfl, HN⟩
            obtain ⟨hc1, HC⟩ := HN.own (by exact H.get5) hc
            (have H := H.top5.call1 HC)
            rw [armR_z] at H hc1 ⊢
            refine ⟨(by exact ⟨H.get5, H.get2⟩), ?_⟩
            refine th_take 4 rfl (by kernel_rfl) (by kernel_rfl) (by kernel_rfl) ((by exact ⟨H.get5, H.get2⟩)) (fun _ hS => ov_move rfl rfl) rfl rfl rfl ?_
            refine th_take 5 rfl (by kernel_rfl) (by kernel_rfl) (by kernel_rfl) ((by exact ⟨H.get5, H.get2⟩)) (fun _ hS => ov_extract rfl rfl rfl) rfl rfl rfl ?_
            refine th_take 6 rfl (by kernel_rfl) (by kernel_rfl) (by kernel_rfl) ((by exact ⟨H.get5, H.get2⟩)) (fun _ hS => ov_extract rfl rfl rfl) rfl rfl rfl ?_
            refine th_one 8 (by kernel_rfl) ?_
            (refine tw_storeW H.get1 rfl rfl (Try.sizeOf48 _) rfl rfl rfl rfl rfl rfl rfl rfl ?_; intro w50 U; have H := H.upd1 U; clear U)
            refine ⟨(by exact ⟨H.get5, H.get2⟩), ?_⟩
            refine th_take 9 rfl (by kernel_rfl) (by kernel_rfl) (by kernel_rfl) ((by exact ⟨H.get5, H.get2⟩)) (fun _ hS => ov_assign rfl rfl) rfl rfl rfl ?_
            refine th_done (by kernel_rfl) ?_
            refine hK20 _ _ (TrC.keep [24, 23, 106, 69, 42, 28, 8, 7, 6, 5, 4, 0] ?_)
            show TrC _ _ _ _ [(24, _), (23, _), (106, _), (69, _), (42, _), (28, _), (8, _), (7, _), (6, _), (5, _), (4, _), (0, _)] _ _
            refine tr_seq (fun K23 hK23 => ?_)
            -- region 4: law.go:51
            refine tr_held (fun w' => (blk b5 48 [.int .i64 now, .slice A1 ((zR (if (armV X q.th).2 = 0 then sortT (X ++ [q.th]) else X))).length c1]).holds w' ∧ (blk b4 30 [.int .u64 q.th.id, .int .u64 q.th.gen, .int .i64 q.th.due]).holds w') mixed rfl H ?_
            intro w51 H
            refine th_take 0 rfl (by kernel_rfl) (by kernel_rfl) (by kernel_rfl) ((by exact ⟨H.get1, H.get2⟩)) (fun _ hS => ov_load_blkN hS.1 rfl (Try.isAgg48 _) (Try.sizeOf48 _) rfl rfl rfl) rfl rfl rfl ?_
            refine th_take 1 rfl (by kernel_rfl) (by kernel_rfl) (by kernel_rfl) ((by exact ⟨H.get1, H.get2⟩)) (fun _ hS => ov_move rfl rfl) rfl rfl rfl ?_
            refine th_take 2 rfl (by kernel_rfl) (by kernel_rfl) (by kernel_rfl) ((by exact ⟨H.get1, H.get2⟩)) (fun _ hS => ov_load_blkN hS.2 rfl (Try.isAgg30 _) (Try.sizeOf30 _) rfl rfl rfl) rfl rfl rfl ?_
            refine th_take 4 rfl (by kernel_rfl) (by kernel_rfl) (by kernel_rfl) ((by exact ⟨H.get1, H.get2⟩)) (fun _ hS => ov_move rfl rfl) rfl rfl rfl ?_
            refine th_one 3 (by kernel_rfl) ?_
            refine tw_call (wArm_c d now X L _ hX H.get6 q.th) rfl rfl rfl rfl Try.call15 rfl rfl rfl ?_
            rintro _ w52 ⟨rfl, L1, hX1, HC⟩
            have H := H.top6.call1 HC
            refine ⟨(by exact ⟨H.get2, H.get3⟩), ?_⟩
            refine th_take 5 rfl (by kernel_rfl) (by kernel_rfl) (by kernel_rfl) ((by exact ⟨H.get2, H.get3⟩)) (fun _ hS => ov_eql rfl rfl rfl) rfl rfl rfl ?_
            refine th_one 6 (by kernel_rfl) ?_
            (refine tw_storeW H.get4 rfl rfl (Try.sizeOf48 _) rfl rfl rfl rfl rfl rfl rfl rfl ?_; intro w53 U; have H := H.upd4 U; clear U)
            refine ⟨(by exact ⟨H.get2, H.get3⟩), ?_⟩
            refine th_take 7 rfl (by kernel_rfl) (by kernel_rfl) (by kernel_rfl) ((by exact ⟨H.get2, H.get3⟩)) (fun _ hS => ov_assign rfl rfl) rfl rfl rfl ?_
            refine th_done (by kernel_rfl) ?_
            refine hK23 _ _ (TrC.keep [7, 23, 106, 69, 42, 28, 8, 6, 5, 4, 0] ?_)
            show TrC _ _ _ _ [(7, _), (23, _), (106, _), (69, _), (42, _), (28, _), (8, _), (6, _), (5, _), (4, _), (0, _)] _ _
            refine tr_ret (post_ret2 (.inr rfl) rfl (by exact ⟨_, rfl, res_blkN H.get4 (Try.isAgg48 _) (Try.sizeOf48 _) rfl rfl⟩) rfl ?_)
            (have eN : stN now q = now := (by unfold stN; rw [if_neg (by omega)]); have eX : stX now X q = (if (armV X q.th).2 = 0 then sortT (X ++ [q.th]) else X) := (by unfold stX; rw [if_neg (by omega), if_neg (by omega), if_neg (by omega)]); rw [eN, eX]; exact ⟨A1, c1, tup_t (decide_eq_true rfl), hc1, L1, wheelX_perm hX1 (arm_perm X q.th), by exact H.drop2.drop2.drop2.drop2.drop2.top1⟩)
    · skip
      -- region 10: law.go:37
      refine tr_region ?_
      refine tr_val (ov_eql rfl rfl rfl) rfl rfl rfl ?_
      refine tr_val (ov_assign rfl rfl) rfl rfl rfl ?_
      refine tr_nil (hK8 _ _ (TrC.keep [69, 42, 28, 8, 7, 6, 5, 4, 0] ?_))
      show TrC _ _ _ _ [(69, _), (42, _), (28, _), (8, _), (7, _), (6, _), (5, _), (4, _), (0, _)] _ _
      refine tr_cond rfl (fun c69 => ?_) (fun c69 => ?_)
      · skip
        refine tr_seq (fun K24 hK24 => ?_)
        -- region 11: law.go:38
        refine tr_region ?_
        refine tr_val (ov_fieldAddr rfl Try.underlying30 rfl (Try.sizeOf2 _) (by decide) rfl) rfl rfl rfl ?_
        refine tr_val (ov_load_blk H.get0 rfl (Try.isAgg2 _) rfl rfl rfl) rfl rfl rfl ?_
        refine tr_val (ov_assign rfl rfl) rfl rfl rfl ?_
        refine tr_nil (hK24 _ _ (TrC.keep [14, 69, 42, 28, 8, 7, 6, 5, 4, 0] ?_))
        show TrC _ _ _ _ [(14, _), (69, _), (42, _), (28, _), (8, _), (7, _), (6, _), (5, _), (4, _), (0, _)] _ _
        refine tr_seq_cut_ [69, 42, 28, 8, 7, 6, 5, 4, 0] [(14, .int .i64 (toW now q))] (fun w' => SH w (footAll [rdr B 4 ((zR X).map encRThing), pack L]) [blk b4 30 [.int .u64 q.th.id, .int .u64 q.th.gen, .int .i64 q.th.due], blk b3 48 [.int .i64 0, .slice none 0 0], blk b2 50 [.int .i64 q.kind, .int .u64 q.th.id, .int .u64 q.th.gen, .int .i64 q.th.due], blk b1 48 [.int .i64 now, .slice B ((zR X)).length c], rdr B 4 ((zR X).map encRThing), pack L] w') (fun K25 hK25 => ?_) (fun w54 H => ?_)
        · skip
          refine tr_seq (fun K26 hK26 => ?_)
          -- region 12: law.go:39
          refine tr_region ?_
          refine tr_val (ov_fieldAddr rfl Try.underlying50 rfl (Try.sizeOf3 _) (by decide) rfl) rfl rfl rfl ?_
          refine tr_val (ov_load_blk H.get2 rfl (Try.isAgg3 _) rfl rfl rfl) rfl rfl rfl ?_
          refine tr_val (ov_eql rfl rfl rfl) rfl rfl rfl ?_
          refine tr_nil (hK26 _ _ (TrC.keep [76, 14, 69, 42, 28, 8, 7, 6, 5, 4, 0] ?_))
          show TrC _ _ _ _ [(76, _), (14, _), (69, _), (42, _), (28, _), (8, _), (7, _), (6, _), (5, _), (4, _), (0, _)] _ _
          refine tr_cond rfl (fun c76 => ?_) (fun c76 => ?_)
          · skip
            -- region 13: law.go:40
            refine tr_region ?_
            refine tr_val (ov_fieldAddr rfl Try.underlying48 rfl (Try.sizeOf2 _) (by decide) rfl) rfl rfl rfl ?_
            refine tr_val (ov_load_blk H.get3 rfl (Try.isAgg2 _) rfl rfl rfl) rfl rfl rfl ?_
            refine tr_val (ov_fieldAddr rfl Try.underlying30 rfl (Try.sizeOf2 _) (by decide) rfl) rfl rfl rfl ?_
            refine tr_val (ov_load_blk H.get0 rfl (Try.isAgg2 _) rfl rfl rfl) rfl rfl rfl ?_
            refine tr_val (ov_min rfl rfl rfl) rfl rfl rfl ?_
            refine tr_val (ov_max rfl rfl rfl) rfl rfl rfl ?_
            refine tr_val (ov_add rfl rfl rfl (w64 (by omega))) rfl rfl rfl ?_
            refine tr_val (ov_assign rfl rfl) rfl rfl rfl ?_
            exact tr_nil (hK25 _ _ (Sub.consE rfl (congrArg (Value.int .i64) (by unfold toW; exact (if_pos (by omega)).symm)) (Sub.cons rfl (Sub.cons rfl (Sub.cons rfl (Sub.cons rfl (Sub.cons rfl (Sub.cons rfl (Sub.cons rfl (Sub.cons rfl (Sub.cons rfl Sub.nil)))))))))) (H))
          · skip
            exact tr_skip (hK25 _ _ (Sub.consE rfl (congrArg (Value.int .i64) (by unfold toW; exact (if_neg (by omega)).symm)) (Sub.cons rfl (Sub.cons rfl (Sub.cons rfl (Sub.cons rfl (Sub.cons rfl (Sub.cons rfl (Sub.cons rfl (Sub.cons rfl (Sub.cons rfl Sub.nil)))))))))) (H))
        · skip
          obtain ⟨to_, hto⟩ : ∃ x, toW now q = x := ⟨_, rfl⟩
          rw [hto]
          show TrC _ _ _ _ [(14, _), (69, _), (42, _), (28, _), (8, _), (7, _), (6, _), (5, _), (4, _), (0, _)] _ _
          refine tr_seq (fun K27 hK27 => ?_)
          -- region 14: law.go:42
          refine tr_region ?_
          refine tr_val (ov_load_blkN H.get3 rfl (Try.isAgg48 _) (Try.sizeOf48 _) rfl rfl rfl) rfl rfl rfl ?_
          refine tr_val (ov_move rfl rfl) rfl rfl rfl ?_
          refine tr_call (AdvanceR_c B c (zR X) now _ (rdr_rd H.get4) (by omega) hc to_ (upD_z hU)) rfl rfl rfl Try.call66 rfl rfl rfl ?_
          rintro _ w55 ⟨Af, cf, A1, c1, rfl, HN⟩
          obtain ⟨hc1, HC⟩ := HN.own H.get4 hc
          have H := H.top4.call1e HC
          rw [advXR_z, advFR_z hids hU] at H ⊢
          rw [advXR_z] at hc1
          refine tr_val (ov_move rfl rfl) rfl rfl rfl ?_
          refine tr_val (ov_extract rfl rfl rfl) rfl rfl rfl ?_
          refine tr_val (ov_extract rfl rfl rfl) rfl rfl rfl ?_
          refine tr_val (ov_extract rfl rfl rfl) rfl rfl rfl ?_
          refine tr_alloc H rfl (Try.zeroValue48 _) rfl rfl rfl rfl ?_
          intro b5 w56 hb5 H
          (refine tr_storeW H.get0 rfl (Try.sizeOf48 _) rfl rfl rfl rfl rfl rfl rfl rfl ?_; intro w57 U; have H := H.upd0 U; clear U)
          refine tr_val (ov_assign rfl rfl) rfl rfl rfl ?_
          refine tr_val (ov_assign rfl rfl) rfl rfl rfl ?_
          refine tr_nil (hK27 _ _ (TrC.keep [17, 16, 15, 14, 69, 42, 28, 8, 7, 6, 5, 4, 0] ?_))
          show TrC _ _ _ _ [(17, _), (16, _), (15, _), (14, _), (69, _), (42, _), (28, _), (8, _), (7, _), (6, _), (5, _), (4, _), (0, _)] _ _
          refine tr_seq (fun K28 hK28 => ?_)
          -- region 15: law.go:43
          refine tr_region ?_
          refine tr_val (ov_move rfl rfl) rfl rfl rfl ?_
          refine tr_val (ov_move rfl rfl) rfl rfl rfl ?_
          refine tr_call (wAdvance_c d now X L _ hX H.get7 to_) rfl rfl rfl Try.call16 rfl rfl rfl ?_
          rintro _ w58 ⟨A5, c5, rfl, L1, hX1, HC⟩
          have H := H.top7.call1e HC
          have hfl : (advF now to_ X).length ≤ 256 := by unfold advF; split; (rw [(sortT_perm _).length_eq]; exact Nat.le_trans (List.length_filter_le _ _) hfew); simp
          have hzf := zR_len (advF now to_ X)
          refine tr_val (ov_move rfl rfl) rfl rfl rfl ?_
          refine tr_val (ov_extract rfl rfl rfl) rfl rfl rfl ?_
          refine tr_val (ov_extract rfl rfl rfl) rfl rfl rfl ?_
          refine tr_val (ov_assign rfl rfl) rfl rfl rfl ?_
          refine tr_val (ov_assign rfl rfl) rfl rfl rfl ?_
          refine tr_nil (hK28 _ _ (TrC.keep [19, 18, 17, 16, 15, 14, 69, 42, 28, 8, 7, 6, 5, 4, 0] ?_))
          show TrC _ _ _ _ [(19, _), (18, _), (17, _), (16, _), (15, _), (14, _), (69, _), (42, _), (28, _), (8, _), (7, _), (6, _), (5, _), (4, _), (0, _)] _ _
          refine tr_seq (fun K29 hK29 => ?_)
          -- region 16: law.go:44
          refine tr_held (fun w' => (blk b5 48 [.int .i64 (advN now to_), .slice A1 ((zR (advX now to_ X))).length c1]).holds w') mixed rfl H ?_
          intro w59 H
          refine th_take 0 rfl (by kernel_rfl) (by kernel_rfl) (by kernel_rfl) (H.get2) (fun _ hS => ov_load_blkN hS rfl (Try.isAgg48 _) (Try.sizeOf48 _) rfl rfl rfl) rfl rfl rfl ?_
          refine th_take 1 rfl (by kernel_rfl) (by kernel_rfl) (by kernel_rfl) (H.get2) (fun _ hS => ov_move rfl rfl) rfl rfl rfl ?_
          refine th_take 2 rfl (by kernel_rfl) (by kernel_rfl) (by kernel_rfl) (H.get2) (fun _ hS => ov_move rfl rfl) rfl rfl rfl ?_
          refine th_take 3 rfl (by kernel_rfl) (by kernel_rfl) (by kernel_rfl) (H.get2) (fun _ hS => ov_eql rfl rfl rfl) rfl rfl rfl ?_
          refine th_take 4 rfl (by kernel_rfl) (by kernel_rfl) (by kernel_rfl) (H.get2) (fun _ hS => ov_move rfl rfl) rfl rfl rfl ?_
          refine th_split (t := 101) rfl (fun s101 => ?_) (fun s101 => ?_)
          · skip
            refine th_take 5 rfl (by kernel_rfl) (by kernel_rfl) (by kernel_rfl) (H.get2) (fun _ hS => ov_move rfl rfl) rfl rfl rfl ?_
            refine th_take 6 rfl (by kernel_rfl) (by kernel_rfl) (by kernel_rfl) (H.get2) (fun _ hS => ov_move rfl rfl) rfl rfl rfl ?_
            refine th_one 7 (by kernel_rfl) ?_
            refine tw_call (Same_c A5 c5 (advF now to_ X) _ (vec_rd H.get0 lenThing (by decide)) (by omega) Af cf (zR (advF now to_ X)) (vec_rd H.get4 lenRThing (by decide)) (by omega)) rfl rfl rfl rfl Try.call25 rfl rfl rfl ?_
            rintro _ w60 ⟨rfl, HC⟩
            have H := H.call0n HC
            refine ⟨H.get2, ?_⟩
            refine th_take 8 rfl (by kernel_rfl) (by kernel_rfl) (by kernel_rfl) (H.get2) (fun _ hS => ov_pick (vb := undef) rfl rfl rfl rfl) rfl rfl rfl ?_
            refine th_one 9 (by kernel_rfl) ?_
            (refine tw_storeW H.get6 rfl rfl (Try.sizeOf48 _) rfl rfl rfl rfl rfl rfl rfl rfl ?_; intro w61 U; have H := H.upd6 U; clear U)
            refine ⟨H.get2, ?_⟩
            refine th_take 10 rfl (by kernel_rfl) (by kernel_rfl) (by kernel_rfl) (H.get2) (fun _ hS => ov_assign rfl rfl) rfl rfl rfl ?_
            refine th_done (by kernel_rfl) ?_
            refine hK29 _ _ (TrC.keep [7, 15, 14, 69, 42, 28, 8, 6, 5, 4, 0] ?_)
            show TrC _ _ _ _ [(7, _), (15, _), (14, _), (69, _), (42, _), (28, _), (8, _), (6, _), (5, _), (4, _), (0, _)] _ _
            refine tr_ret (post_ret2 (.inr rfl) rfl (by exact ⟨_, rfl, res_blkN H.get6 (Try.isAgg48 _) (Try.sizeOf48 _) rfl rfl⟩) rfl ?_)
            (have eN : stN now q = advN now to_ := (by unfold stN; rw [if_pos (by omega), hto]); have eX : stX now X q = advX now to_ X := (by unfold stX; rw [if_neg (by omega), if_pos (by omega), hto]); rw [eN, eX]; exact ⟨A1, c1, tup_t (decide_eq_true (zR_plain _).symm), hc1, L1, hX1, H.drop0.drop1.drop2.drop2.drop2.drop2.drop2.top1⟩)
          · exact absurd rfl s101
      · skip
        refine tr_seq (fun K30 hK30 => ?_)
        -- region 17: law.go:45
        refine tr_region ?_
        refine tr_val (ov_eql rfl rfl rfl) rfl rfl rfl ?_
        refine tr_val (ov_assign rfl rfl) rfl rfl rfl ?_
        refine tr_nil (hK30 _ _ (TrC.keep [106, 69, 42, 28, 8, 7, 6, 5, 4, 0] ?_))
        show TrC _ _ _ _ [(106, _), (69, _), (42, _), (28, _), (8, _), (7, _), (6, _), (5, _), (4, _), (0, _)] _ _
        refine tr_cond rfl (fun c106 => ?_) (fun c106 => ?_)
        · skip
          refine tr_seq (fun K31 hK31 => ?_)
          -- region 18: law.go:46
          refine tr_region ?_
          refine tr_val (ov_move rfl rfl) rfl rfl rfl ?_
          refine tr_val (ov_fieldAddr rfl Try.underlying30 rfl (Try.sizeOf28 _) (by decide) rfl) rfl rfl rfl ?_
          refine tr_val (ov_load_blk H.get0 rfl (Try.isAgg28 _) rfl rfl rfl) rfl rfl rfl ?_
          refine tr_call (wGet_c d now X L _ hX H.get5 q.th.id) rfl rfl rfl Try.call27 rfl rfl rfl ?_
          rintro _ w62 ⟨rfl, HC⟩
          have H := H.call0n HC
          refine tr_val (ov_move rfl rfl) rfl rfl rfl ?_
          refine tr_val (ov_extract rfl rfl rfl) rfl rfl rfl ?_
          refine tr_val (ov_extract rfl rfl rfl) rfl rfl rfl ?_
          refine tr_alloc H rfl (Try.zeroValue30 _) rfl rfl rfl rfl ?_
          intro b5 w63 hb5 H
          (refine tr_storeW H.get0 rfl (Try.sizeOf30 _) rfl rfl rfl rfl rfl rfl rfl rfl ?_; intro w64 U; have H := H.upd0 U; clear U)
          refine tr_val (ov_assign rfl rfl) rfl rfl rfl ?_
          refine tr_nil (hK31 _ _ (TrC.keep [21, 20, 106, 69, 42, 28, 8, 7, 6, 5, 4, 0] ?_))
          show TrC _ _ _ _ [(21, _), (20, _), (106, _), (69, _), (42, _), (28, _), (8, _), (7, _), (6, _), (5, _), (4, _), (0, _)] _ _
          refine tr_seq (fun K32 hK32 => ?_)
          -- region 19: law.go:47
          refine tr_region ?_
          refine tr_val (ov_fieldAddr rfl Try.underlying48 rfl (Try.sizeOf46 _) (by decide) rfl) rfl rfl rfl ?_
          refine tr_val (ov_load_blk H.get4 rfl (Try.isAgg46 _) rfl rfl rfl) rfl rfl rfl ?_
          refine tr_val (ov_fieldAddr rfl Try.underlying30 rfl (Try.sizeOf28 _) (by decide) rfl) rfl rfl rfl ?_
          refine tr_val (ov_load_blk H.get1 rfl (Try.isAgg28 _) rfl rfl rfl) rfl rfl rfl ?_
          refine tr_call (FindR_c B c (zR X) _ (rdr_rd H.get5) (by omega) q.th.id) rfl rfl rfl Try.call67 rfl rfl rfl ?_
          rintro _ w65 ⟨rfl, HC⟩
          have H := H.call0n HC
          refine tr_val (ov_assign rfl rfl) rfl rfl rfl ?_
          refine tr_nil (hK32 _ _ (TrC.keep [22, 21, 20, 106, 69, 42, 28, 8, 7, 6, 5, 4, 0] ?_))
          show TrC _ _ _ _ [(22, _), (21, _), (20, _), (106, _), (69, _), (42, _), (28, _), (8, _), (7, _), (6, _), (5, _), (4, _), (0, _)] _ _
          refine tr_seq (fun K33 hK33 => ?_)
          -- region 20: law.go:48
          have hi1 := idx_lt q.th.id (zR X)
          refine tr_held (fun w' => (blk b5 30 [.int .u64 (tOr (findT q.th.id X)).id, .int .u64 (tOr (findT q.th.id X)).gen, .int .i64 (tOr (findT q.th.id X)).due]).holds w' ∧ (blk b1 48 [.int .i64 now, .slice B ((zR X)).length c]).holds w' ∧ (rdr B 4 ((zR X).map encRThing)).holds w') mixed rfl H ?_
          intro w66 H
          refine th_take 0 rfl (by kernel_rfl) (by kernel_rfl) (by kernel_rfl) (⟨H.get0, H.get4, H.get5⟩) (fun _ hS => ov_load_blkN hS.2.1 rfl (Try.isAgg48 _) (Try.sizeOf48 _) rfl rfl rfl) rfl rfl rfl ?_
          refine th_take 1 rfl (by kernel_rfl) (by kernel_rfl) (by kernel_rfl) (⟨H.get0, H.get4, H.get5⟩) (fun _ hS => ov_move rfl rfl) rfl rfl rfl ?_
          refine th_take 2 rfl (by kernel_rfl) (by kernel_rfl) (by kernel_rfl) (⟨H.get0, H.get4, H.get5⟩) (fun _ hS => ov_move rfl rfl) rfl rfl rfl ?_
          refine th_take 3 rfl (by kernel_rfl) (by kernel_rfl) (by kernel_rfl) (⟨H.get0, H.get4, H.get5⟩) (fun _ hS => ov_geq rfl rfl rfl) rfl rfl rfl ?_
          refine th_take 4 rfl (by kernel_rfl) (by kernel_rfl) (by kernel_rfl) (⟨H.get0, H.get4, H.get5⟩) (fun _ hS => ov_eqlb rfl Try.underlying4 rfl rfl) rfl rfl rfl ?_
          refine th_take 5 rfl (by kernel_rfl) (by kernel_rfl) (by kernel_rfl) (⟨H.get0, H.get4, H.get5⟩) (fun _ hS => ov_move rfl rfl) rfl rfl rfl ?_
          refine th_split (t := 125) rfl (fun s125 => ?_) (fun s125 => ?_)
          · skip
            refine th_take 6 rfl (by kernel_rfl) (by kernel_rfl) (by kernel_rfl) (⟨H.get0, H.get4, H.get5⟩) (fun _ hS => ov_move rfl rfl) rfl rfl rfl ?_
            refine th_take 7 rfl (by kernel_rfl) (by kernel_rfl) (by kernel_rfl) (⟨H.get0, H.get4, H.get5⟩) (fun _ hS => ov_lss rfl rfl rfl) rfl rfl rfl ?_
            refine th_take 8 rfl (by kernel_rfl) (by kernel_rfl) (by kernel_rfl) (⟨H.get0, H.get4, H.get5⟩) (fun _ hS => ov_move rfl rfl) rfl rfl rfl ?_
            refine th_split (t := 128) rfl (fun s128 => ?_) (fun s128 => ?_)
            · skip
              refine th_take 9 rfl (by kernel_rfl) (by kernel_rfl) (by kernel_rfl) (⟨H.get0, H.get4, H.get5⟩) (fun _ hS => ov_load_blkN hS.1 rfl (Try.isAgg30 _) (Try.sizeOf30 _) rfl rfl rfl) rfl rfl rfl ?_
              refine th_take 10 rfl (by kernel_rfl) (by kernel_rfl) (by kernel_rfl) (⟨H.get0, H.get4, H.get5⟩) (fun _ hS => ov_build rfl (fun ρ k => bs0 k) (bld30 _)) rfl rfl rfl ?_
              refine th_take 11 rfl (by kernel_rfl) (by kernel_rfl) (by kernel_rfl) (⟨H.get0, H.get4, H.get5⟩) (fun _ hS => ov_eqTh (s := tOr (findT q.th.id X)) (t := ⟨0, 0, 0⟩) rfl rfl rfl) rfl rfl rfl ?_
              refine th_take 12 rfl (by kernel_rfl) (by kernel_rfl) (by kernel_rfl) (⟨H.get0, H.get4, H.get5⟩) (fun _ hS => ov_pick (vb := undef) rfl rfl rfl rfl) rfl rfl rfl ?_
              refine th_take 13 rfl (by kernel_rfl) (by kernel_rfl) (by kernel_rfl) (⟨H.get0, H.get4, H.get5⟩) (fun _ hS => ov_move rfl rfl) rfl rfl rfl ?_
              refine th_split (t := 133) rfl (fun s133 => ?_) (fun s133 => ?_)
              · skip
                refine th_pass 14 rfl (by kernel_rfl) (by kernel_rfl) (by kernel_rfl) (⟨H.get0, H.get4, H.get5⟩) rfl rfl rfl ?_
                refine th_pass 15 rfl (by kernel_rfl) (by kernel_rfl) (by kernel_rfl) (⟨H.get0, H.get4, H.get5⟩) rfl rfl rfl ?_
                refine th_pass 16 rfl (by kernel_rfl) (by kernel_rfl) (by kernel_rfl) (⟨H.get0, H.get4, H.get5⟩) rfl rfl rfl ?_
                refine th_pass 17 rfl (by kernel_rfl) (by kernel_rfl) (by kernel_rfl) (⟨H.get0, H.get4, H.get5⟩) rfl rfl rfl ?_
                refine th_pass 18 rfl (by kernel_rfl) (by kernel_rfl) (by kernel_rfl) (⟨H.get0, H.get4, H.get5⟩) rfl rfl rfl ?_
                refine th_pass 19 rfl (by kernel_rfl) (by kernel_rfl) (by kernel_rfl) (⟨H.get0, H.get4, H.get5⟩) rfl rfl rfl ?_
                refine th_pass 20 rfl (by kernel_rfl) (by kernel_rfl) (by kernel_rfl) (⟨H.get0, H.get4, H.get5⟩) rfl rfl rfl ?_
                refine th_pass 21 rfl (by kernel_rfl) (by kernel_rfl) (by kernel_rfl) (⟨H.get0, H.get4, H.get5⟩) rfl rfl rfl ?_
                refine th_pass 22 rfl (by kernel_rfl) (by kernel_rfl) (by kernel_rfl) (⟨H.get0, H.get4, H.get5⟩) rfl rfl rfl ?_
                refine th_pass 23 rfl (by kernel_rfl) (by kernel_rfl) (by kernel_rfl) (⟨H.get0, H.get4, H.get5⟩) rfl rfl rfl ?_
                refine th_pass 24 rfl (by kernel_rfl) (by kernel_rfl) (by kernel_rfl) (⟨H.get0, H.get4, H.get5⟩) rfl rfl rfl ?_
                refine th_pass 25 rfl (by kernel_rfl) (by kernel_rfl) (by kernel_rfl) (⟨H.get0, H.get4, H.get5⟩) rfl rfl rfl ?_
                refine th_take 26 rfl (by kernel_rfl) (by kernel_rfl) (by kernel_rfl) (⟨H.get0, H.get4, H.get5⟩) (fun _ hS => ov_pick (vb := undef) rfl rfl rfl rfl) rfl rfl rfl ?_
                refine th_take 27 rfl (by kernel_rfl) (by kernel_rfl) (by kernel_rfl) (⟨H.get0, H.get4, H.get5⟩) (fun _ hS => ov_pick (vb := undef) rfl rfl rfl rfl) rfl rfl rfl ?_
                refine th_one 28 (by kernel_rfl) ?_
                (refine tw_storeW H.get2 rfl rfl (Try.sizeOf48 _) rfl rfl rfl rfl rfl rfl rfl rfl ?_; intro w67 U; have H := H.upd2 U; clear U)
                refine ⟨⟨H.get0, H.get4, H.get5⟩, ?_⟩
                refine th_take 29 rfl (by kernel_rfl) (by kernel_rfl) (by kernel_rfl) (⟨H.get0, H.get4, H.get5⟩) (fun _ hS => ov_assign rfl rfl) rfl rfl rfl ?_
                refine th_done (by kernel_rfl) ?_
                refine hK33 _ _ (TrC.keep [7, 20, 106, 69, 42, 28, 8, 6, 5, 4, 0] ?_)
                show TrC _ _ _ _ [(7, _), (20, _), (106, _), (69, _), (42, _), (28, _), (8, _), (6, _), (5, _), (4, _), (0, _)] _ _
                refine tr_ret (post_ret2 (.inr rfl) rfl (by exact ⟨_, rfl, res_blkN H.get2 (Try.isAgg48 _) (Try.sizeOf48 _) rfl rfl⟩) rfl ?_)
                (have eN : stN now q = now := (by unfold stN; rw [if_neg (by omega)]); have eX : stX now X q = X := (by unfold stX; rw [if_neg (by omega), if_neg (by omega), if_pos (by omega)]); rw [eN, eX]; exact ⟨B, c, tup_t (rfl), hc, L, hX, H.drop0.drop0.drop0.drop0.drop0⟩)
              · exact absurd (tOr_neg s128) s133
            · skip
              refine th_pass 9 rfl (by kernel_rfl) (by kernel_rfl) (by kernel_rfl) (⟨H.get0, H.get4, H.get5⟩) rfl rfl rfl ?_
              refine th_pass 10 rfl (by kernel_rfl) (by kernel_rfl) (by kernel_rfl) (⟨H.get0, H.get4, H.get5⟩) rfl rfl rfl ?_
              refine th_pass 11 rfl (by kernel_rfl) (by kernel_rfl) (by kernel_rfl) (⟨H.get0, H.get4, H.get5⟩) rfl rfl rfl ?_
              refine th_take 12 rfl (by kernel_rfl) (by kernel_rfl) (by kernel_rfl) (⟨H.get0, H.get4, H.get5⟩) (fun _ hS => ov_pick_f (va := undef) rfl rfl rfl rfl) rfl rfl rfl ?_
              refine th_take 13 rfl (by kernel_rfl) (by kernel_rfl) (by kernel_rfl) (⟨H.get0, H.get4, H.get5⟩) (fun _ hS => ov_move rfl rfl) rfl rfl rfl ?_
              refine th_take 14 rfl (by kernel_rfl) (by kernel_rfl) (by kernel_rfl) (⟨H.get0, H.get4, H.get5⟩) (fun _ hS => ov_move rfl rfl) rfl rfl rfl ?_
              refine th_take 15 rfl (by kernel_rfl) (by kernel_rfl) (by kernel_rfl) (⟨H.get0, H.get4, H.get5⟩) (fun _ hS => ov_geq rfl rfl rfl) rfl rfl rfl ?_
              refine th_take 16 rfl (by kernel_rfl) (by kernel_rfl) (by kernel_rfl) (⟨H.get0, H.get4, H.get5⟩) (fun _ hS => ov_move rfl rfl) rfl rfl rfl ?_
              refine th_split (t := 136) rfl (fun s136 => ?_) (fun s136 => ?_)
              · skip
                refine th_take 17 rfl (by kernel_rfl) (by kernel_rfl) (by kernel_rfl) (⟨H.get0, H.get4, H.get5⟩) (fun _ hS => ov_load_blkN hS.1 rfl (Try.isAgg30 _) (Try.sizeOf30 _) rfl rfl rfl) rfl rfl rfl ?_
                refine th_take 19 rfl (by kernel_rfl) (by kernel_rfl) (by kernel_rfl) (⟨H.get0, H.get4, H.get5⟩) (fun _ hS => ov_fieldAddr rfl Try.underlying48 rfl (Try.sizeOf46 _) (by decide) rfl) rfl rfl rfl ?_
                refine th_take 20 rfl (by kernel_rfl) (by kernel_rfl) (by kernel_rfl) (⟨H.get0, H.get4, H.get5⟩) (fun _ hS => ov_load_blk hS.2.1 rfl (Try.isAgg46 _) rfl rfl rfl) rfl rfl rfl ?_
                refine th_take 21 rfl (by kernel_rfl) (by kernel_rfl) (by kernel_rfl) (⟨H.get0, H.get4, H.get5⟩) (fun _ hS => ov_move rfl rfl) rfl rfl rfl ?_
                refine th_take 22 rfl (by kernel_rfl) (by kernel_rfl) (by kernel_rfl) (⟨H.get0, H.get4, H.get5⟩) (fun _ hS => ov_indexAddrR (rdr_rd hS.2.2) rfl Try.underlying46 (Try.sizeOf59 _) rfl rfl (by omega) hi1) rfl rfl rfl ?_
                refine th_take 23 rfl (by kernel_rfl) (by kernel_rfl) (by kernel_rfl) (⟨H.get0, H.get4, H.get5⟩) (fun _ hS => ld_RThing (rdr_rd hS.2.2) rfl (Try.isAgg59 _) (Try.sizeOf59 _) rfl (by omega) hi1) rfl rfl rfl ?_
                refine th_one 18 (by kernel_rfl) ?_
                refine tw_call (Plain_c (tOr (findT q.th.id X)) _) rfl rfl rfl rfl Try.call65 rfl rfl rfl ?_
                rintro _ w68 ⟨rfl, HC⟩
                have H := H.call0n HC
                refine ⟨⟨H.get0, H.get4, H.get5⟩, ?_⟩
                refine th_take 24 rfl (by kernel_rfl) (by kernel_rfl) (by kernel_rfl) (⟨H.get0, H.get4, H.get5⟩) (fun _ hS => ov_eqRT (s := toR (tOr (findT q.th.id X)) 0) (t := gt (zR X) (idxR q.th.id (zR X))) rfl rfl rfl) rfl rfl rfl ?_
                refine th_take 25 rfl (by kernel_rfl) (by kernel_rfl) (by kernel_rfl) (⟨H.get0, H.get4, H.get5⟩) (fun _ hS => ov_pick (vb := undef) rfl rfl rfl rfl) rfl rfl rfl ?_
                refine th_take 26 rfl (by kernel_rfl) (by kernel_rfl) (by kernel_rfl) (⟨H.get0, H.get4, H.get5⟩) (fun _ hS => ov_pick_f (va := undef) rfl rfl rfl rfl) rfl rfl rfl ?_
                refine th_take 27 rfl (by kernel_rfl) (by kernel_rfl) (by kernel_rfl) (⟨H.get0, H.get4, H.get5⟩) (fun _ hS => ov_pick (vb := undef) rfl rfl rfl rfl) rfl rfl rfl ?_
                refine th_one 28 (by kernel_rfl) ?_
                (refine tw_storeW H.get2 rfl rfl (Try.sizeOf48 _) rfl rfl rfl rfl rfl rfl rfl rfl ?_; intro w69 U; have H := H.upd2 U; clear U)
                refine ⟨⟨H.get0, H.get4, H.get5⟩, ?_⟩
                refine th_take 29 rfl (by kernel_rfl) (by kernel_rfl) (by kernel_rfl) (⟨H.get0, H.get4, H.get5⟩) (fun _ hS => ov_assign rfl rfl) rfl rfl rfl ?_
                refine th_done (by kernel_rfl) ?_
                refine hK33 _ _ (TrC.keep [7, 20, 106, 69, 42, 28, 8, 6, 5, 4, 0] ?_)
                show TrC _ _ _ _ [(7, _), (20, _), (106, _), (69, _), (42, _), (28, _), (8, _), (6, _), (5, _), (4, _), (0, _)] _ _
                refine tr_ret (post_ret2 (.inr rfl) rfl (by exact ⟨_, rfl, res_blkN H.get2 (Try.isAgg48 _) (Try.sizeOf48 _) rfl rfl⟩) rfl ?_)
                (have eN : stN now q = now := (by unfold stN; rw [if_neg (by omega)]); have eX : stX now X q = X := (by unfold stX; rw [if_neg (by omega), if_neg (by omega), if_pos (by omega)]); rw [eN, eX]; exact ⟨B, c, tup_t (decide_eq_true (get_pos s128)), hc, L, hX, H.drop0.drop0.drop0.drop0.drop0⟩)
              · exfalso; omega
          · exact absurd (beq_iff_eq.mp (get_idx q.th.id X)) s125
        · skip
          refine tr_seq (fun K34 hK34 => ?_)
          -- region 3: law.go:50
          refine tr_held (fun w' => (blk b1 48 [.int .i64 now, .slice B ((zR X)).length c]).holds w' ∧ (blk b4 30 [.int .u64 q.th.id, .int .u64 q.th.gen, .int .i64 q.th.due]).holds w') mixed rfl H ?_
          intro w70 H
          refine th_take 0 rfl (by kernel_rfl) (by kernel_rfl) (by kernel_rfl) ((by exact ⟨H.get3, H.get0⟩)) (fun _ hS => ov_load_blkN hS.1 rfl (Try.isAgg48 _) (Try.sizeOf48 _) rfl rfl rfl) rfl rfl rfl ?_
          refine th_take 1 rfl (by kernel_rfl) (by kernel_rfl) (by kernel_rfl) ((by exact ⟨H.get3, H.get0⟩)) (fun _ hS => ov_load_blkN hS.2 rfl (Try.isAgg30 _) (Try.sizeOf30 _) rfl rfl rfl) rfl rfl rfl ?_
          refine th_two 2 7 (by kernel_rfl) ?_ ?_
          · skip
            refine tw_call (Plain_c q.th _) rfl rfl rfl rfl Try.call65 rfl rfl rfl ?_
            rintro _ w71 ⟨rfl, HC⟩
            have H := H.call0n HC
            refine ⟨(by exact ⟨H.get3, H.get0⟩), ?_⟩
            refine th_two 3 7 (by kernel_rfl) ?_ ?_
            · skip
              refine tw_call (ArmR_c B c (zR X) now _ (rdr_rd (by exact H.get4)) (by omega) (toR q.th 0)) rfl rfl rfl rfl Try.call68 rfl rfl rfl ?_
              rintro _ w72 ⟨A1, c1, rfl, HN⟩
              obtain ⟨hc1, HC⟩ := HN.own (by exact H.get4) hc
              (have H := H.top4.call1 HC)
              rw [armR_z] at H hc1 ⊢
              refine ⟨(by exact ⟨H.get4, H.get1⟩), ?_⟩
              refine th_take 4 rfl (by kernel_rfl) (by kernel_rfl) (by kernel_rfl) ((by exact ⟨H.get4, H.get1⟩)) (fun _ hS => ov_move rfl rfl) rfl rfl rfl ?_
              refine th_take 5 rfl (by kernel_rfl) (by kernel_rfl) (by kernel_rfl) ((by exact ⟨H.get4, H.get1⟩)) (fun _ hS => ov_extract rfl rfl rfl) rfl rfl rfl ?_
              refine th_take 6 rfl (by kernel_rfl) (by kernel_rfl) (by kernel_rfl) ((by exact ⟨H.get4, H.get1⟩)) (fun _ hS => ov_extract rfl rfl rfl) rfl rfl rfl ?_
              refine th_one 7 (by kernel_rfl) ?_
              refine tw_alloc H rfl rfl (Try.zeroValue48 _) rfl rfl rfl rfl ?_
              intro b5 w73 hb5 H
              refine ⟨(by exact ⟨H.get5, H.get2⟩), ?_⟩
              refine th_one 8 (by kernel_rfl) ?_
              (refine tw_storeW H.get0 rfl rfl (Try.sizeOf48 _) rfl rfl rfl rfl rfl rfl rfl rfl ?_; intro w74 U; have H := H.upd0 U; clear U)
              refine ⟨(by exact ⟨H.get5, H.get2⟩), ?_⟩
              refine th_take 9 rfl (by kernel_rfl) (by kernel_rfl) (by kernel_rfl) ((by exact ⟨H.get5, H.get2⟩)) (fun _ hS => ov_assign rfl rfl) rfl rfl rfl ?_
              refine th_done (by kernel_rfl) ?_
              refine hK34 _ _ (TrC.keep [24, 23, 106, 69, 42, 28, 8, 7, 6, 5, 4, 0] ?_)
              show TrC _ _ _ _ [(24, _), (23, _), (106, _), (69, _), (42, _), (28, _), (8, _), (7, _), (6, _), (5, _), (4, _), (0, _)] _ _
              refine tr_seq (fun K35 hK35 => ?_)
              -- region 4: law.go:51
              refine tr_held (fun w' => (blk b5 48 [.int .i64 now, .slice A1 ((zR (if (armV X q.th).2 = 0 then sortT (X ++ [q.th]) else X))).length c1]).holds w' ∧ (blk b4 30 [.int .u64 q.th.id, .int .u64 q.th.gen, .int .i64 q.th.due]).holds w') mixed rfl H ?_
              intro w75 H
              refine th_take 0 rfl (by kernel_rfl) (by kernel_rfl) (by kernel_rfl) ((by exact ⟨H.get0, H.get2⟩)) (fun _ hS => ov_load_blkN hS.1 rfl (Try.isAgg48 _) (Try.sizeOf48 _) rfl rfl rfl) rfl rfl rfl ?_
              refine th_take 1 rfl (by kernel_rfl) (by kernel_rfl) (by kernel_rfl) ((by exact ⟨H.get0, H.get2⟩)) (fun _ hS => ov_move rfl rfl) rfl rfl rfl ?_
              refine th_take 2 rfl (by kernel_rfl) (by kernel_rfl) (by kernel_rfl) ((by exact ⟨H.get0, H.get2⟩)) (fun _ hS => ov_load_blkN hS.2 rfl (Try.isAgg30 _) (Try.sizeOf30 _) rfl rfl rfl) rfl rfl rfl ?_
              refine th_take 4 rfl (by kernel_rfl) (by kernel_rfl) (by kernel_rfl) ((by exact ⟨H.get0, H.get2⟩)) (fun _ hS => ov_move rfl rfl) rfl rfl rfl ?_
              refine th_one 3 (by kernel_rfl) ?_
              refine tw_call (wArm_c d now X L _ hX H.get6 q.th) rfl rfl rfl rfl Try.call15 rfl rfl rfl ?_
              rintro _ w76 ⟨rfl, L1, hX1, HC⟩
              have H := H.top6.call1 HC
              refine ⟨(by exact ⟨H.get1, H.get3⟩), ?_⟩
              refine th_take 5 rfl (by kernel_rfl) (by kernel_rfl) (by kernel_rfl) ((by exact ⟨H.get1, H.get3⟩)) (fun _ hS => ov_eql rfl rfl rfl) rfl rfl rfl ?_
              refine th_one 6 (by kernel_rfl) ?_
              (refine tw_storeW H.get4 rfl rfl (Try.sizeOf48 _) rfl rfl rfl rfl rfl rfl rfl rfl ?_; intro w77 U; have H := H.upd4 U; clear U)
              refine ⟨(by exact ⟨H.get1, H.get3⟩), ?_⟩
              refine th_take 7 rfl (by kernel_rfl) (by kernel_rfl) (by kernel_rfl) ((by exact ⟨H.get1, H.get3⟩)) (fun _ hS => ov_assign rfl rfl) rfl rfl rfl ?_
              refine th_done (by kernel_rfl) ?_
              refine hK35 _ _ (TrC.keep [7, 23, 106, 69, 42, 28, 8, 6, 5, 4, 0] ?_)
              show TrC _ _ _ _ [(7, _), (23, _), (106, _), (69, _), (42, _), (28, _), (8, _), (6, _), (5, _), (4, _), (0, _)] _ _
              refine tr_ret (post_ret2 (.inr rfl) rfl (by exact ⟨_, rfl, res_blkN H.get4 (Try.isAgg48 _) (Try.sizeOf48 _) rfl rfl⟩) rfl ?_)
              (have eN : stN now q = now := (by unfold stN; rw [if_neg (by omega)]); have eX : stX now X q = (if (armV X q.th).2 = 0 then sortT (X ++ [q.th]) else X) := (by unfold stX; rw [if_neg (by omega), if_neg (by omega), if_neg (by omega)]); rw [eN, eX]; exact ⟨A1, c1, tup_t (decide_eq_true rfl), hc1, L1, wheelX_perm hX1 (arm_perm X q.th), by exact H.drop1.drop2.drop2.drop2.drop2.top1⟩)
            · skip
              refine tw_alloc H rfl rfl (Try.zeroValue48 _) rfl rfl rfl rfl ?_
              intro b5 w78 hb5 H
              refine ⟨(by exact ⟨H.get4, H.get1⟩), ?_⟩
              refine th_one 3 (by kernel_rfl) ?_
              refine tw_call (ArmR_c B c (zR X) now _ (rdr_rd (by exact H.get5)) (by omega) (toR q.th 0)) rfl rfl rfl rfl Try.call68 rfl rfl rfl ?_
              rintro _ w79 ⟨A1, c1, rfl, HN⟩
              obtain ⟨hc1, HC⟩ := HN.own (by exact H.get5) hc
              (have H := H.top5.call1 HC)
              rw [armR_z] at H hc1 ⊢
              refine ⟨(by exact ⟨H.get5, H.get2⟩), ?_⟩
              refine th_take 4 rfl (by kernel_rfl) (by kernel_rfl) (by kernel_rfl) ((by exact ⟨H.get5, H.get2⟩)) (fun _ hS => ov_move rfl rfl) rfl rfl rfl ?_
              refine th_take 5 rfl (by kernel_rfl) (by kernel_rfl) (by kernel_rfl) ((by exact ⟨H.get5, H.get2⟩)) (fun _ hS => ov_extract rfl rfl rfl) rfl rfl rfl ?_
              refine th_take 6 rfl (by kernel_rfl) (by kernel_rfl) (by kernel_rfl) ((by exact ⟨H.get5, H.get2⟩)) (fun _ hS => ov_extract rfl rfl rfl) rfl rfl rfl ?_
              refine th_one 8 (by kernel_rfl) ?_
              (refine tw_storeW H.get1 rfl rfl (Try.sizeOf48 _) rfl rfl rfl rfl rfl rfl rfl rfl ?_; intro w80 U; have H := H.upd1 U; clear U)
              refine ⟨(by exact ⟨H.get5, H.get2⟩), ?_⟩
              refine th_take 9 rfl (by kernel_rfl) (by kernel_rfl) (by kernel_rfl) ((by exact ⟨H.get5, H.get2⟩)) (fun _ hS => ov_assign rfl rfl) rfl rfl rfl ?_
              refine th_done (by kernel_rfl) ?_
              refine hK34 _ _ (TrC.keep [24, 23, 106, 69, 42, 28, 8, 7, 6, 5, 4, 0] ?_)
              show TrC _ _ _ _ [(24, _), (23, _), (106, _), (69, _), (42, _), (28, _), (8, _), (7, _), (6, _), (5, _), (4, _), (0, _)] _ _
              refine tr_seq (fun K36 hK36 => ?_)
              -- region 4: law.go:51
              refine tr_held (fun w' => (blk b5 48 [.int .i64 now, .slice A1 ((zR (if (armV X q.th).2 = 0 then sortT (X ++ [q.th]) else X))).length c1]).holds w' ∧ (blk b4 30 [.int .u64 q.th.id, .int .u64 q.th.gen, .int .i64 q.th.due]).holds w') mixed rfl H ?_
              intro w81 H
              refine th_take 0 rfl (by kernel_rfl) (by kernel_rfl) (by kernel_rfl) ((by exact ⟨H.get1, H.get2⟩)) (fun _ hS => ov_load_blkN hS.1 rfl (Try.isAgg48 _) (Try.sizeOf48 _) rfl rfl rfl) rfl rfl rfl ?_
              refine th_take 1 rfl (by kernel_rfl) (by kernel_rfl) (by kernel_rfl) ((by exact ⟨H.get1, H.get2⟩)) (fun _ hS => ov_move rfl rfl) rfl rfl rfl ?_
              refine th_take 2 rfl (by kernel_rfl) (by kernel_rfl) (by kernel_rfl) ((by exact ⟨H.get1, H.get2⟩)) (fun _ hS => ov_load_blkN hS.2 rfl (Try.isAgg30 _) (Try.sizeOf30 _) rfl rfl rfl) rfl rfl rfl ?_
              refine th_take 4 rfl (by kernel_rfl) (by kernel_rfl) (by kernel_rfl) ((by exact ⟨H.get1, H.get2⟩)) (fun _ hS => ov_move rfl rfl) rfl rfl rfl ?_
              refine th_one 3 (by kernel_rfl) ?_
              refine tw_call (wArm_c d now X L _ hX H.get6 q.th) rfl rfl rfl rfl Try.call15 rfl rfl rfl ?_
              rintro _ w82 ⟨rfl, L1, hX1, HC⟩
              have H := H.top6.call1 HC
              refine ⟨(by exact ⟨H.get2, H.get3⟩), ?_⟩
              refine th_take 5 rfl (by kernel_rfl) (by kernel_rfl) (by kernel_rfl) ((by exact ⟨H.get2, H.get3⟩)) (fun _ hS => ov_eql rfl rfl rfl) rfl rfl rfl ?_
              refine th_one 6 (by kernel_rfl) ?_
              (refine tw_storeW H.get4 rfl rfl (Try.sizeOf48 _) rfl rfl rfl rfl rfl rfl rfl rfl ?_; intro w83 U; have H := H.upd4 U; clear U)
              refine ⟨(by exact ⟨H.get2, H.get3⟩), ?_⟩
              refine th_take 7 rfl (by kernel_rfl) (by kernel_rfl) (by kernel_rfl) ((by exact ⟨H.get2, H.get3⟩)) (fun _ hS => ov_assign rfl rfl) rfl rfl rfl ?_
              refine th_done (by kernel_rfl) ?_
              refine hK36 _ _ (TrC.keep [7, 23, 106, 69, 42, 28, 8, 6, 5, 4, 0] ?_)
              show TrC _ _ _ _ [(7, _), (23, _), (106, _), (69, _), (42, _), (28, _), (8, _), (6, _), (5, _), (4, _), (0, _)] _ _
              refine tr_ret (post_ret2 (.inr rfl) rfl (by exact ⟨_, rfl, res_blkN H.get4 (Try.isAgg48 _) (Try.sizeOf48 _) rfl rfl⟩) rfl ?_)
              (have eN : stN now q = now := (by unfold stN; rw [if_neg (by omega)]); have eX : stX now X q = (if (armV X q.th).2 = 0 then sortT (X ++ [q.th]) else X) := (by unfold stX; rw [if_neg (by omega), if_neg (by omega), if_neg (by omega)]); rw [eN, eX]; exact ⟨A1, c1, tup_t (decide_eq_true rfl), hc1, L1, wheelX_perm hX1 (arm_perm X q.th), by exact H.drop2.drop2.drop2.drop2.drop2.top1⟩)
          · skip
            refine tw_alloc H rfl rfl (Try.zeroValue48 _) rfl rfl rfl rfl ?_
            intro b5 w84 hb5 H
            refine ⟨(by exact ⟨H.get4, H.get1⟩), ?_⟩
            refine th_one 2 (by kernel_rfl) ?_
            refine tw_call (Plain_c q.th _) rfl rfl rfl rfl Try.call65 rfl rfl rfl ?_
            rintro _ w85 ⟨rfl, HC⟩
            have H := H.call0n HC
            refine ⟨(by exact ⟨H.get4, H.get1⟩), ?_⟩
            refine th_one 3 (by kernel_rfl) ?_
            refine tw_call (ArmR_c B c (zR X) now _ (rdr_rd (by exact H.get5)) (by omega) (toR q.th 0)) rfl rfl rfl rfl Try.call68 rfl rfl rfl ?_
            rintro _ w86 ⟨A1, c1, rfl, HN⟩
            obtain ⟨hc1, HC⟩ := HN.own (by exact H.get5) hc
            (have H := H.top5.call1 HC)
            rw [armR_z] at H hc1 ⊢
            refine ⟨(by exact ⟨H.get5, H.get2⟩), ?_⟩
            refine th_take 4 rfl (by kernel_rfl) (by kernel_rfl) (by kernel_rfl) ((by exact ⟨H.get5, H.get2⟩)) (fun _ hS => ov_move rfl rfl) rfl rfl rfl ?_
            refine th_take 5 rfl (by kernel_rfl) (by kernel_rfl) (by kernel_rfl) ((by exact ⟨H.get5, H.get2⟩)) (fun _ hS => ov_extract rfl rfl rfl) rfl rfl rfl ?_
            refine th_take 6 rfl (by kernel_rfl) (by kernel_rfl) (by kernel_rfl) ((by exact ⟨H.get5, H.get2⟩)) (fun _ hS => ov_extract rfl rfl rfl) rfl rfl rfl ?_
            refine th_one 8 (by kernel_rfl) ?_
            (refine tw_storeW H.get1 rfl rfl (Try.sizeOf48 _) rfl rfl rfl rfl rfl rfl rfl rfl ?_; intro w87 U; have H := H.upd1 U; clear U)
            refine ⟨(by exact ⟨H.get5, H.get2⟩), ?_⟩
            refine th_take 9 rfl (by kernel_rfl) (by kernel_rfl) (by kernel_rfl) ((by exact ⟨H.get5, H.get2⟩)) (fun _ hS => ov_assign rfl rfl) rfl rfl rfl ?_
            refine th_done (by kernel_rfl) ?_
            refine hK34 _ _ (TrC.keep [24, 23, 106, 69, 42, 28, 8, 7, 6, 5, 4, 0] ?_)
            show TrC _ _ _ _ [(24, _), (23, _), (106, _), (69, _), (42, _), (28, _), (8, _), (7, _), (6, _), (5, _), (4, _), (0, _)] _ _
            refine tr_seq (fun K37 hK37 => ?_)
            -- region 4: law.go:51
            refine tr_held (fun w' => (blk b5 48 [.int .i64 now, .slice A1 ((zR (if (armV X q.th).2 = 0 then sortT (X ++ [q.th]) else X))).length c1]).holds w' ∧ (blk b4 30 [.int .u64 q.th.id, .int .u64 q.th.gen, .int .i64 q.th.due]).holds w') mixed rfl H ?_
            intro w88 H
            refine th_take 0 rfl (by kernel_rfl) (by kernel_rfl) (by kernel_rfl) ((by exact ⟨H.get1, H.get2⟩)) (fun _ hS => ov_load_blkN hS.1 rfl (Try.isAgg48 _) (Try.sizeOf48 _) rfl rfl rfl) rfl rfl rfl ?_
            refine th_take 1 rfl (by kernel_rfl) (by kernel_rfl) (by kernel_rfl) ((by exact ⟨H.get1, H.get2⟩)) (fun _ hS => ov_move rfl rfl) rfl rfl rfl ?_
            refine th_take 2 rfl (by kernel_rfl) (by kernel_rfl) (by kernel_rfl) ((by exact ⟨H.get1, H.get2⟩)) (fun _ hS => ov_load_blkN hS.2 rfl (Try.isAgg30 _) (Try.sizeOf30 _) rfl rfl rfl) rfl rfl rfl ?_
            refine th_take 4 rfl (by kernel_rfl) (by kernel_rfl) (by kernel_rfl) ((by exact ⟨H.get1, H.get2⟩)) (fun _ hS => ov_move rfl rfl) rfl rfl rfl ?_
            refine th_one 3 (by kernel_rfl) ?_
            refine tw_call (wArm_c d now X L _ hX H.get6 q.th) rfl rfl rfl rfl Try.call15 rfl rfl rfl ?_
            rintro _ w89 ⟨rfl, L1, hX1, HC⟩
            have H := H.top6.call1 HC
            refine ⟨(by exact ⟨H.get2, H.get3⟩), ?_⟩
            refine th_take 5 rfl (by kernel_rfl) (by kernel_rfl) (by kernel_rfl) ((by exact ⟨H.get2, H.get3⟩)) (fun _ hS => ov_eql rfl rfl rfl) rfl rfl rfl ?_
            refine th_one 6 (by kernel_rfl) ?_
            (refine tw_storeW H.get4 rfl rfl (Try.sizeOf48 _) rfl rfl rfl rfl rfl rfl rfl rfl ?_; intro w90 U; have H := H.upd4 U; clear U)
            refine ⟨(by exact ⟨H.get2, H.get3⟩), ?_⟩
            refine th_take 7 rfl (by kernel_rfl) (by kernel_rfl) (by kernel_rfl) ((by exact ⟨H.get2, H.get3⟩)) (fun _ hS => ov_assign rfl rfl) rfl rfl rfl ?_
            refine th_done (by kernel_rfl) ?_
            refine hK37 _ _ (TrC.keep [7, 23, 106, 69, 42, 28, 8, 6, 5, 4, 0] ?_)
            show TrC _ _ _ _ [(7, _), (23, _), (106, _), (69, _), (42, _), (28, _), (8, _), (6, _), (5, _), (4, _), (0, _)] _ _
            refine tr_ret (post_ret2 (.inr rfl) rfl (by exact ⟨_, rfl, res_blkN H.get4 (Try.isAgg48 _) (Try.sizeOf48 _) rfl rfl⟩) rfl ?_)
            (have eN : stN now q = now := (by unfold stN; rw [if_neg (by omega)]); have eX : stX now X q = (if (armV X q.th).2 = 0 then sortT (X ++ [q.th]) else X) := (by unfold stX; rw [if_neg (by omega), if_neg (by omega), if_neg (by omega)]); rw [eN, eX]; exact ⟨A1, c1, tup_t (decide_eq_true rfl), hc1, L1, wheelX_perm hX1 (arm_perm X q.th), by exact H.drop2.drop2.drop2.drop2.drop2.top1⟩)

/-! curfew/curfewlaw12.WheelPlays -/
set_option maxRecDepth 20000 in
theorem WheelPlays_c (now : Int) (B : Option Addr) (c : Nat) (Q : List WOp) (w : World) (hR : Rd w B 4 (Q.map encWOp)) : Does Try.prog 6 #[.int .i64 now, .slice B Q.length c] w (fun v w' => v = .bool true ∧ SH w noBlocks [] w') := by
  refine does_enter2 Try.func6 rfl Try.ntmps6 rfl ?_
  have H := SH.start w noBlocks
  refine tr_seq (fun K1 hK1 => ?_)
  -- region 0: law.go:56
  refine tr_region ?_
  refine tr_val (ov_assign rfl rfl) rfl rfl rfl ?_
  refine tr_nil (hK1 _ _ (TrC.keep [4, 0, 1] ?_))
  show TrC _ _ _ _ [(4, _), (0, _), (1, _)] _ _
  refine tr_seq (fun K2 hK2 => ?_)
  refine tr_seq (fun K3 hK3 => ?_)
  -- region 1: law.go:57
  refine tr_region ?_
  refine tr_val (ov_move rfl rfl) rfl rfl rfl ?_
  refine tr_val (ov_len rfl rfl Try.underlying45 rfl) rfl rfl rfl ?_
  refine tr_val (ov_gtr rfl rfl rfl) rfl rfl rfl ?_
  refine tr_val (ov_move rfl rfl) rfl rfl rfl ?_
  refine tr_split (t := 16) rfl (fun s16 => ?_) (fun s16 => ?_)
  · skip
    refine tr_pass rfl rfl rfl ?_
    refine tr_pass rfl rfl rfl ?_
    refine tr_val (ov_pick (vb := undef) rfl rfl rfl rfl) rfl rfl rfl ?_
    refine tr_val (ov_move rfl rfl) rfl rfl rfl ?_
    refine tr_pass rfl rfl rfl ?_
    refine tr_pass rfl rfl rfl ?_
    refine tr_val (ov_pick (vb := undef) rfl rfl rfl rfl) rfl rfl rfl ?_
    refine tr_nil (hK3 _ _ (TrC.keep [23, 4, 0, 1] ?_))
    show TrC _ _ _ _ [(23, _), (4, _), (0, _), (1, _)] _ _
    refine tr_cond_t rfl rfl ?_
    refine tr_seq (fun K4 hK4 => ?_)
    -- region 2: law.go:58
    refine tr_region ?_
    refine tr_call (wNew_nil (-1) _ (by decide)) rfl rfl rfl Try.call14 rfl rfl rfl ?_
    rintro _ w1 ⟨rfl, HC⟩
    have H := H.call0n HC
    refine tr_val (ov_eql_nil rfl Try.underlying24 rfl rfl) rfl rfl rfl ?_
    refine tr_val (ov_move rfl rfl) rfl rfl rfl ?_
    refine tr_splitb (t := 26) rfl (fun s26 => ?_) (fun s26 => ?_)
    · skip
      refine tr_call (wNew_nil 1125899906842625 _ (by decide)) rfl rfl rfl Try.call14 rfl rfl rfl ?_
      rintro _ w2 ⟨rfl, HC⟩
      have H := H.call0n HC
      refine tr_val (ov_eql_nil rfl Try.underlying24 rfl rfl) rfl rfl rfl ?_
      refine tr_val (ov_pick (vb := undef) rfl rfl rfl rfl) rfl rfl rfl ?_
      refine tr_val (ov_move rfl rfl) rfl rfl rfl ?_
      refine tr_splitb (t := 30) rfl (fun s30 => ?_) (fun s30 => ?_)
      · skip
        refine tr_call (lives12_c _) rfl rfl rfl Try.call13 rfl rfl rfl ?_
        rintro _ w3 ⟨rfl, HC⟩
        have H := H.call0n HC
        refine tr_val (ov_pick (vb := undef) rfl rfl rfl rfl) rfl rfl rfl ?_
        refine tr_val (ov_assign rfl rfl) rfl rfl rfl ?_
        refine tr_nil (hK4 _ _ (TrC.keep [4, 23, 0, 1] ?_))
        show TrC _ _ _ _ [(4, _), (23, _), (0, _), (1, _)] _ _
        refine tr_ret (post_ret1 (.inr rfl) rfl rfl ?_)
        exact ⟨rfl, H⟩
      · cases s30
    · cases s26
  · skip
    refine tr_val (ov_move rfl rfl) rfl rfl rfl ?_
    refine tr_val (ov_lss rfl rfl rfl) rfl rfl rfl ?_
    refine tr_val (ov_pick_f (va := undef) rfl rfl rfl rfl) rfl rfl rfl ?_
    refine tr_val (ov_move rfl rfl) rfl rfl rfl ?_
    refine tr_split (t := 20) rfl (fun s20 => ?_) (fun s20 => ?_)
    · skip
      refine tr_pass rfl rfl rfl ?_
      refine tr_pass rfl rfl rfl ?_
      refine tr_val (ov_pick (vb := undef) rfl rfl rfl rfl) rfl rfl rfl ?_
      refine tr_nil (hK3 _ _ (TrC.keep [23, 4, 0, 1] ?_))
      show TrC _ _ _ _ [(23, _), (4, _), (0, _), (1, _)] _ _
      refine tr_cond_t rfl rfl ?_
      refine tr_seq (fun K5 hK5 => ?_)
      -- region 2: law.go:58
      refine tr_region ?_
      refine tr_call (wNew_nil (-1) _ (by decide)) rfl rfl rfl Try.call14 rfl rfl rfl ?_
      rintro _ w4 ⟨rfl, HC⟩
      have H := H.call0n HC
      refine tr_val (ov_eql_nil rfl Try.underlying24 rfl rfl) rfl rfl rfl ?_
      refine tr_val (ov_move rfl rfl) rfl rfl rfl ?_
      refine tr_splitb (t := 26) rfl (fun s26 => ?_) (fun s26 => ?_)
      · skip
        refine tr_call (wNew_nil 1125899906842625 _ (by decide)) rfl rfl rfl Try.call14 rfl rfl rfl ?_
        rintro _ w5 ⟨rfl, HC⟩
        have H := H.call0n HC
        refine tr_val (ov_eql_nil rfl Try.underlying24 rfl rfl) rfl rfl rfl ?_
        refine tr_val (ov_pick (vb := undef) rfl rfl rfl rfl) rfl rfl rfl ?_
        refine tr_val (ov_move rfl rfl) rfl rfl rfl ?_
        refine tr_splitb (t := 30) rfl (fun s30 => ?_) (fun s30 => ?_)
        · skip
          refine tr_call (lives12_c _) rfl rfl rfl Try.call13 rfl rfl rfl ?_
          rintro _ w6 ⟨rfl, HC⟩
          have H := H.call0n HC
          refine tr_val (ov_pick (vb := undef) rfl rfl rfl rfl) rfl rfl rfl ?_
          refine tr_val (ov_assign rfl rfl) rfl rfl rfl ?_
          refine tr_nil (hK5 _ _ (TrC.keep [4, 23, 0, 1] ?_))
          show TrC _ _ _ _ [(4, _), (23, _), (0, _), (1, _)] _ _
          refine tr_ret (post_ret1 (.inr rfl) rfl rfl ?_)
          exact ⟨rfl, H⟩
        · cases s30
      · cases s26
    · skip
      refine tr_val (ov_move rfl rfl) rfl rfl rfl ?_
      refine tr_val (ov_gtr rfl rfl rfl) rfl rfl rfl ?_
      refine tr_val (ov_pick_f (va := undef) rfl rfl rfl rfl) rfl rfl rfl ?_
      refine tr_nil (hK3 _ _ (TrC.keep [23, 4, 0, 1] ?_))
      show TrC _ _ _ _ [(23, _), (4, _), (0, _), (1, _)] _ _
      refine tr_cond rfl (fun c23 => ?_) (fun c23 => ?_)
      · skip
        refine tr_seq (fun K6 hK6 => ?_)
        -- region 2: law.go:58
        refine tr_region ?_
        refine tr_call (wNew_nil (-1) _ (by decide)) rfl rfl rfl Try.call14 rfl rfl rfl ?_
        rintro _ w7 ⟨rfl, HC⟩
        have H := H.call0n HC
        refine tr_val (ov_eql_nil rfl Try.underlying24 rfl rfl) rfl rfl rfl ?_
        refine tr_val (ov_move rfl rfl) rfl rfl rfl ?_
        refine tr_splitb (t := 26) rfl (fun s26 => ?_) (fun s26 => ?_)
        · skip
          refine tr_call (wNew_nil 1125899906842625 _ (by decide)) rfl rfl rfl Try.call14 rfl rfl rfl ?_
          rintro _ w8 ⟨rfl, HC⟩
          have H := H.call0n HC
          refine tr_val (ov_eql_nil rfl Try.underlying24 rfl rfl) rfl rfl rfl ?_
          refine tr_val (ov_pick (vb := undef) rfl rfl rfl rfl) rfl rfl rfl ?_
          refine tr_val (ov_move rfl rfl) rfl rfl rfl ?_
          refine tr_splitb (t := 30) rfl (fun s30 => ?_) (fun s30 => ?_)
          · skip
            refine tr_call (lives12_c _) rfl rfl rfl Try.call13 rfl rfl rfl ?_
            rintro _ w9 ⟨rfl, HC⟩
            have H := H.call0n HC
            refine tr_val (ov_pick (vb := undef) rfl rfl rfl rfl) rfl rfl rfl ?_
            refine tr_val (ov_assign rfl rfl) rfl rfl rfl ?_
            refine tr_nil (hK6 _ _ (TrC.keep [4, 23, 0, 1] ?_))
            show TrC _ _ _ _ [(4, _), (23, _), (0, _), (1, _)] _ _
            refine tr_ret (post_ret1 (.inr rfl) rfl rfl ?_)
            exact ⟨rfl, H⟩
          · cases s30
        · cases s26
      · skip
        refine tr_skip (hK2 _ _ (TrC.keep [23, 4, 0, 1] ?_))
        show TrC _ _ _ _ [(23, _), (4, _), (0, _), (1, _)] _ _
        refine tr_seq (fun K7 hK7 => ?_)
        -- region 3: law.go:60
        refine tr_region ?_
        refine tr_val (ov_move rfl rfl) rfl rfl rfl ?_
        refine tr_call (wNew_c now _ (by omega)) rfl rfl rfl Try.call14 rfl rfl rfl ?_
        rintro _ w10 ⟨d, L0, rfl, hX0, HC⟩
        have H := H.call0r HC
        refine tr_val (ov_move rfl rfl) rfl rfl rfl ?_
        refine tr_val (ov_build rfl (fun ρ k => bs1 k rfl) (bld48_0 _ _)) rfl rfl rfl ?_
        refine tr_alloc H rfl (Try.zeroValue48 _) rfl rfl rfl rfl ?_
        intro b1 w11 hb1 H
        refine tr_val (ov_assign rfl rfl) rfl rfl rfl ?_
        (refine tr_storeW H.get0 rfl (Try.sizeOf48 _) rfl rfl rfl rfl rfl rfl rfl rfl ?_; intro w12 U; have H := H.upd0 U; clear U)
        refine tr_nil (hK7 _ _ (TrC.keep [5, 6, 23, 4, 0, 1] ?_))
        show TrC _ _ _ _ [(5, _), (6, _), (23, _), (4, _), (0, _), (1, _)] _ _
        refine tr_seq (fun K8 hK8 => ?_)
        refine tr_seq (fun K9 hK9 => ?_)
        -- region 4: law.go:61
        have H := H.add (upd_emp_rdr _ 4)
        refine tr_region ?_
        refine tr_val (ov_move rfl rfl) rfl rfl rfl ?_
        refine tr_val (ov_len rfl rfl Try.underlying45 rfl) rfl rfl rfl ?_
        refine tr_val (ov_move rfl rfl) rfl rfl rfl ?_
        refine tr_nil (hK9 _ _ (TrC.keep [39, 38, 37, 5, 6, 23, 4, 0, 1] ?_))
        show TrC _ _ _ _ [(39, _), (38, _), (37, _), (5, _), (6, _), (23, _), (4, _), (0, _), (1, _)] _ _
        refine tr_block ?_
        refine tr_loop_ (X := Int × Int × List Thing × Option Addr × Nat × List Res) [38, 37, 5, 6, 23, 0, 1] (fun ⟨i, n, X, A1, c1, L⟩ => [(39, .int .i64 i)]) (fun ⟨i, n, X, A1, c1, L⟩ w' => 0 ≤ i ∧ i ≤ Q.length ∧ (zR X).length ≤ c1 ∧ UpT X ∧ WheelX 65 117 161 30 d n X L ∧ SH w noBlocks [rdr A1 4 ((zR X).map encRThing), blk b1 48 [.int .i64 n, .slice A1 ((zR X)).length c1], pack L] w') (fun ⟨i, n, X, A1, c1, L⟩ => (Q.length - i).toNat) (⟨0, now, [], none, 0, L0⟩) (Sub.cons rfl (Sub.cons rfl (Sub.cons rfl (Sub.cons rfl (Sub.cons rfl (Sub.cons rfl (Sub.cons rfl (Sub.cons rfl Sub.nil)))))))) (⟨by omega, by omega, by simp [zR], List.Pairwise.nil, hX0, H⟩) ?_
        rintro ⟨i, n, X, A1, c1, L⟩ w13 ⟨hi0, hi1, hc1, hU, hX, H⟩ K10 hK10
        show TrC _ _ _ _ [(39, _), (38, _), (37, _), (5, _), (6, _), (23, _), (0, _), (1, _)] _ _
        refine tr_seq (fun K11 hK11 => ?_)
        -- region 5: law.go:61
        refine tr_region ?_
        refine tr_val (ov_lss rfl rfl rfl) rfl rfl rfl ?_
        refine tr_nil (hK11 _ _ (TrC.keep [40, 39, 38, 37, 5, 6, 23, 0, 1] ?_))
        show TrC _ _ _ _ [(40, _), (39, _), (38, _), (37, _), (5, _), (6, _), (23, _), (0, _), (1, _)] _ _
        refine tr_seq (fun K12 hK12 => ?_)
        refine tr_cond rfl (fun c40 => ?_) (fun c40 => ?_)
        · skip
          refine tr_skip (hK12 _ _ (TrC.keep [40, 39, 38, 37, 5, 6, 23, 0, 1] ?_))
          show TrC _ _ _ _ [(40, _), (39, _), (38, _), (37, _), (5, _), (6, _), (23, _), (0, _), (1, _)] _ _
          refine tr_seq (fun K13 hK13 => ?_)
          refine tr_block ?_
          refine tr_seq (fun K14 hK14 => ?_)
          -- region 6: law.go:61
          refine tr_region ?_
          refine tr_val (ov_indexAddrR (H.rd0 hR) rfl Try.underlying45 (Try.sizeOf50 _) rfl rfl (by omega) (by omega)) rfl rfl rfl ?_
          refine tr_val (ld_WOp (H.rd0 hR) rfl (Try.isAgg50 _) (Try.sizeOf50 _) rfl (by omega) (by omega)) rfl rfl rfl ?_
          refine tr_alloc H rfl (Try.zeroValue50 _) rfl rfl rfl rfl ?_
          intro b2 w14 hb2 H
          (refine tr_storeW H.get0 rfl (Try.sizeOf50 _) rfl rfl rfl rfl rfl rfl rfl rfl ?_; intro w15 U; have H := H.upd0 U; clear U)
          refine tr_nil (hK14 _ _ (TrC.keep [8, 40, 39, 38, 37, 5, 6, 23, 0, 1] ?_))
          show TrC _ _ _ _ [(8, _), (40, _), (39, _), (38, _), (37, _), (5, _), (6, _), (23, _), (0, _), (1, _)] _ _
          refine tr_seq (fun K15 hK15 => ?_)
          -- region 7: law.go:62
          refine tr_region ?_
          refine tr_val (ov_move rfl rfl) rfl rfl rfl ?_
          refine tr_val (ov_load_blkN H.get2 rfl (Try.isAgg48 _) (Try.sizeOf48 _) rfl rfl rfl) rfl rfl rfl ?_
          refine tr_val (ov_load_blkN H.get0 rfl (Try.isAgg50 _) (Try.sizeOf50 _) rfl rfl rfl) rfl rfl rfl ?_
          refine tr_call (do12_c A1 c1 d n X L _ hX hU hc1 ((H.drop0.drop1 : SH _ _ [_, _] _).own_ [_, _] (rs := [])) (gt Q i)) rfl rfl rfl Try.call22 rfl rfl rfl ?_
          rintro _ w16 ⟨A2, c2, rfl, hc2, L2, hX2, HC⟩
          have H := H.top1.top3.top1.call2 HC
          have hU2 := stX_up (now := n) (q := gt Q i) hU
          obtain ⟨hids2, hdue2, hfew2, hnow2⟩ := whX_of hX2
          have hzl2 := zR_len (stX n X (gt Q i))
          refine tr_val (ov_move rfl rfl) rfl rfl rfl ?_
          refine tr_val (ov_extract rfl rfl rfl) rfl rfl rfl ?_
          refine tr_val (ov_extract rfl rfl rfl) rfl rfl rfl ?_
          refine tr_alloc H rfl (Try.zeroValue48 _) rfl rfl rfl rfl ?_
          intro b3 w17 hb3 H
          (refine tr_storeW H.get0 rfl (Try.sizeOf48 _) rfl rfl rfl rfl rfl rfl rfl rfl ?_; intro w18 U; have H := H.upd0 U; clear U)
          refine tr_val (ov_assign rfl rfl) rfl rfl rfl ?_
          refine tr_nil (hK15 _ _ (TrC.keep [10, 9, 8, 40, 39, 38, 37, 5, 6, 23, 0, 1] ?_))
          show TrC _ _ _ _ [(10, _), (9, _), (8, _), (40, _), (39, _), (38, _), (37, _), (5, _), (6, _), (23, _), (0, _), (1, _)] _ _
          refine tr_seq (fun K16 hK16 => ?_)
          -- region 8: law.go:63
          refine tr_region ?_
          refine tr_val (ov_load_blkN H.get0 rfl (Try.isAgg48 _) (Try.sizeOf48 _) rfl rfl rfl) rfl rfl rfl ?_
          (refine tr_storeW H.get4 rfl (Try.sizeOf48 _) rfl rfl rfl rfl rfl rfl rfl rfl ?_; intro w19 U; have H := H.upd4 U; clear U)
          refine tr_nil (hK16 _ _ (TrC.keep [10, 9, 8, 40, 39, 38, 37, 5, 6, 23, 0, 1] ?_))
          show TrC _ _ _ _ [(10, _), (9, _), (8, _), (40, _), (39, _), (38, _), (37, _), (5, _), (6, _), (23, _), (0, _), (1, _)] _ _
          refine tr_seq (fun K17 hK17 => ?_)
          refine tr_seq (fun K18 hK18 => ?_)
          -- region 9: law.go:64
          refine tr_held (fun w' => (blk b1 48 [.int .i64 (stN n (gt Q i)), .slice A2 ((zR (stX n X (gt Q i)))).length c2]).holds w') mixed rfl H ?_
          intro w20 H
          refine th_take 0 rfl (by kernel_rfl) (by kernel_rfl) (by kernel_rfl) ((by exact H.get4)) (fun _ hS => ov_move rfl rfl) rfl rfl rfl ?_
          refine th_take 1 rfl (by kernel_rfl) (by kernel_rfl) (by kernel_rfl) ((by exact H.get4)) (fun _ hS => ov_notb rfl rfl) rfl rfl rfl ?_
          refine th_take 2 rfl (by kernel_rfl) (by kernel_rfl) (by kernel_rfl) ((by exact H.get4)) (fun _ hS => ov_move rfl rfl) rfl rfl rfl ?_
          refine th_splitb (t := 53) rfl (fun s53 => ?_) (fun s53 => ?_)
          · cases s53
          · skip
            refine th_take 3 rfl (by kernel_rfl) (by kernel_rfl) (by kernel_rfl) ((by exact H.get4)) (fun _ hS => ov_move rfl rfl) rfl rfl rfl ?_
            refine th_take 5 rfl (by kernel_rfl) (by kernel_rfl) (by kernel_rfl) ((by exact H.get4)) (fun _ hS => ov_fieldAddr rfl Try.underlying48 rfl (Try.sizeOf2 _) (by decide) rfl) rfl rfl rfl ?_
            refine th_take 6 rfl (by kernel_rfl) (by kernel_rfl) (by kernel_rfl) ((by exact H.get4)) (fun _ hS => ov_load_blk hS rfl (Try.isAgg2 _) rfl rfl rfl) rfl rfl rfl ?_
            refine th_one 4 (by kernel_rfl) ?_
            refine tw_call (wNow_x d (stN n (gt Q i)) (stX n X (gt Q i)) L2 _ hX2 H.get2) rfl rfl rfl rfl Try.call23 rfl rfl rfl ?_
            rintro _ w21 ⟨rfl, HC⟩
            have H := H.call0n HC
            refine ⟨(by exact H.get4), ?_⟩
            refine th_take 7 rfl (by kernel_rfl) (by kernel_rfl) (by kernel_rfl) ((by exact H.get4)) (fun _ hS => ov_neq rfl rfl rfl) rfl rfl rfl ?_
            refine th_take 8 rfl (by kernel_rfl) (by kernel_rfl) (by kernel_rfl) ((by exact H.get4)) (fun _ hS => ov_pick_f (va := undef) rfl rfl rfl rfl) rfl rfl rfl ?_
            refine th_take 9 rfl (by kernel_rfl) (by kernel_rfl) (by kernel_rfl) ((by exact H.get4)) (fun _ hS => ov_move rfl rfl) rfl rfl rfl ?_
            refine th_split (t := 60) rfl (fun s60 => ?_) (fun s60 => ?_)
            · exact absurd rfl s60
            · skip
              refine th_take 10 rfl (by kernel_rfl) (by kernel_rfl) (by kernel_rfl) ((by exact H.get4)) (fun _ hS => ov_move rfl rfl) rfl rfl rfl ?_
              refine th_take 12 rfl (by kernel_rfl) (by kernel_rfl) (by kernel_rfl) ((by exact H.get4)) (fun _ hS => ov_fieldAddr rfl Try.underlying48 rfl (Try.sizeOf46 _) (by decide) rfl) rfl rfl rfl ?_
              refine th_take 13 rfl (by kernel_rfl) (by kernel_rfl) (by kernel_rfl) ((by exact H.get4)) (fun _ hS => ov_load_blk hS rfl (Try.isAgg46 _) rfl rfl rfl) rfl rfl rfl ?_
              refine th_take 14 rfl (by kernel_rfl) (by kernel_rfl) (by kernel_rfl) ((by exact H.get4)) (fun _ hS => ov_len rfl rfl Try.underlying46 rfl) rfl rfl rfl ?_
              refine th_one 11 (by kernel_rfl) ?_
              refine tw_call (wLen_c d (stN n (gt Q i)) (stX n X (gt Q i)) L2 _ hX2 H.get2) rfl rfl rfl rfl Try.call20 rfl rfl rfl ?_
              rintro _ w22 ⟨rfl, HC⟩
              have H := H.call0n HC
              refine ⟨(by exact H.get4), ?_⟩
              refine th_take 15 rfl (by kernel_rfl) (by kernel_rfl) (by kernel_rfl) ((by exact H.get4)) (fun _ hS => ov_neq rfl rfl rfl) rfl rfl rfl ?_
              refine th_take 16 rfl (by kernel_rfl) (by kernel_rfl) (by kernel_rfl) ((by exact H.get4)) (fun _ hS => ov_pick_f (va := undef) rfl rfl rfl rfl) rfl rfl rfl ?_
              refine th_take 17 rfl (by kernel_rfl) (by kernel_rfl) (by kernel_rfl) ((by exact H.get4)) (fun _ hS => ov_move rfl rfl) rfl rfl rfl ?_
              refine th_split (t := 68) rfl (fun s68 => ?_) (fun s68 => ?_)
              · exfalso; omega
              · skip
                refine th_take 18 rfl (by kernel_rfl) (by kernel_rfl) (by kernel_rfl) ((by exact H.get4)) (fun _ hS => ov_move rfl rfl) rfl rfl rfl ?_
                refine th_take 20 rfl (by kernel_rfl) (by kernel_rfl) (by kernel_rfl) ((by exact H.get4)) (fun _ hS => ov_load_blkN hS rfl (Try.isAgg48 _) (Try.sizeOf48 _) rfl rfl rfl) rfl rfl rfl ?_
                refine th_one 19 (by kernel_rfl) ?_
                refine tw_call (wSpread_c d (stN n (gt Q i)) (stX n X (gt Q i)) L2 _ hX2 H.get2) rfl rfl rfl rfl Try.call19 rfl rfl rfl ?_
                rintro _ w23 ⟨rfl, HC⟩
                have H := H.call0n HC
                refine ⟨(by exact H.get4), ?_⟩
                refine th_one 21 (by kernel_rfl) ?_
                refine tw_call (SpreadR_c A2 c2 (zR (stX n X (gt Q i))) (stN n (gt Q i)) _ (rdr_rd H.get1) (by omega) hnow2 (due_z hdue2)) rfl rfl rfl rfl Try.call24 rfl rfl rfl ?_
                rintro _ w24 ⟨rfl, HC⟩
                have H := H.call0n HC
                refine ⟨(by exact H.get4), ?_⟩
                refine th_take 22 rfl (by kernel_rfl) (by kernel_rfl) (by kernel_rfl) ((by exact H.get4)) (fun _ hS => ov_neqA5 rfl rfl rfl rfl rfl) rfl rfl rfl ?_
                refine th_take 23 rfl (by kernel_rfl) (by kernel_rfl) (by kernel_rfl) ((by exact H.get4)) (fun _ hS => ov_pick_f (va := undef) rfl rfl rfl rfl) rfl rfl rfl ?_
                refine th_take 24 rfl (by kernel_rfl) (by kernel_rfl) (by kernel_rfl) ((by exact H.get4)) (fun _ hS => ov_move rfl rfl) rfl rfl rfl ?_
                refine th_split (t := 75) rfl (fun s75 => ?_) (fun s75 => ?_)
                · exact (s75 (by rw [zR_plain])).elim
                · skip
                  refine th_take 25 rfl (by kernel_rfl) (by kernel_rfl) (by kernel_rfl) ((by exact H.get4)) (fun _ hS => ov_move rfl rfl) rfl rfl rfl ?_
                  refine th_take 27 rfl (by kernel_rfl) (by kernel_rfl) (by kernel_rfl) ((by exact H.get4)) (fun _ hS => ov_fieldAddr rfl Try.underlying48 rfl (Try.sizeOf46 _) (by decide) rfl) rfl rfl rfl ?_
                  refine th_take 28 rfl (by kernel_rfl) (by kernel_rfl) (by kernel_rfl) ((by exact H.get4)) (fun _ hS => ov_load_blk hS rfl (Try.isAgg46 _) rfl rfl rfl) rfl rfl rfl ?_
                  refine th_one 26 (by kernel_rfl) ?_
                  refine tw_call (wAll_c d (stN n (gt Q i)) (stX n X (gt Q i)) L2 _ hX2 H.get2) rfl rfl rfl rfl Try.call18 rfl rfl rfl ?_
                  rintro _ w25 ⟨A4, c4, rfl, HC⟩
                  have H := H.call0r HC
                  have hsl := sortT_len (stX n X (gt Q i))
                  refine ⟨(by exact H.get5), ?_⟩
                  refine th_one 29 (by kernel_rfl) ?_
                  refine tw_call (Same_c A4 c4 (sortT (stX n X (gt Q i))) _ (vec_rd H.get0 lenThing (by decide)) (by omega) A2 c2 (zR (stX n X (gt Q i))) (rdr_rd H.get2) (by omega)) rfl rfl rfl rfl Try.call25 rfl rfl rfl ?_
                  rintro _ w26 ⟨rfl, HC⟩
                  have H := H.call0n HC
                  refine ⟨(by exact H.get5), ?_⟩
                  refine th_take 30 rfl (by kernel_rfl) (by kernel_rfl) (by kernel_rfl) ((by exact H.get5)) (fun _ hS => ov_not rfl rfl) rfl rfl rfl ?_
                  refine th_take 31 rfl (by kernel_rfl) (by kernel_rfl) (by kernel_rfl) ((by exact H.get5)) (fun _ hS => ov_pick_f (va := undef) rfl rfl rfl rfl) rfl rfl rfl ?_
                  refine th_done (by kernel_rfl) ?_
                  refine hK18 _ _ (TrC.keep [82, 9, 8, 40, 39, 38, 37, 5, 6, 23, 0, 1] ?_)
                  show TrC _ _ _ _ [(82, _), (9, _), (8, _), (40, _), (39, _), (38, _), (37, _), (5, _), (6, _), (23, _), (0, _), (1, _)] _ _
                  refine tr_cond rfl (fun c82 => ?_) (fun c82 => ?_)
                  · exact (c82 (by rw [zR_plain]; exact sort_up hids2 hU2)).elim
                  · skip
                    refine tr_skip (hK17 _ _ (TrC.keep [82, 9, 8, 40, 39, 38, 37, 5, 6, 23, 0, 1] ?_))
                    show TrC _ _ _ _ [(82, _), (9, _), (8, _), (40, _), (39, _), (38, _), (37, _), (5, _), (6, _), (23, _), (0, _), (1, _)] _ _
                    refine tr_seq (fun K19 hK19 => ?_)
                    -- region 11: law.go:67
                    refine tr_region ?_
                    refine tr_val (ov_move rfl rfl) rfl rfl rfl ?_
                    refine tr_call (wNext_c d (stN n (gt Q i)) (stX n X (gt Q i)) L2 _ hX2 H.get3) rfl rfl rfl Try.call26 rfl rfl rfl ?_
                    rintro _ w27 ⟨rfl, HC⟩
                    have H := H.call0n HC
                    rw [nextD_eq]
                    refine tr_val (ov_move rfl rfl) rfl rfl rfl ?_
                    refine tr_val (ov_extract rfl rfl rfl) rfl rfl rfl ?_
                    refine tr_val (ov_extract rfl rfl rfl) rfl rfl rfl ?_
                    refine tr_val (ov_assign rfl rfl) rfl rfl rfl ?_
                    refine tr_val (ov_assign rfl rfl) rfl rfl rfl ?_
                    refine tr_nil (hK19 _ _ (TrC.keep [12, 11, 82, 9, 8, 40, 39, 38, 37, 5, 6, 23, 0, 1] ?_))
                    show TrC _ _ _ _ [(12, _), (11, _), (82, _), (9, _), (8, _), (40, _), (39, _), (38, _), (37, _), (5, _), (6, _), (23, _), (0, _), (1, _)] _ _
                    refine tr_seq (fun K20 hK20 => ?_)
                    -- region 12: law.go:68
                    refine tr_region ?_
                    refine tr_val (ov_move rfl rfl) rfl rfl rfl ?_
                    refine tr_val (ov_fieldAddr rfl Try.underlying48 rfl (Try.sizeOf46 _) (by decide) rfl) rfl rfl rfl ?_
                    refine tr_val (ov_load_blk H.get5 rfl (Try.isAgg46 _) rfl rfl rfl) rfl rfl rfl ?_
                    refine tr_val (ov_len rfl rfl Try.underlying46 rfl) rfl rfl rfl ?_
                    refine tr_val (ov_gtr rfl rfl rfl) rfl rfl rfl ?_
                    refine tr_val (ov_neqb rfl Try.underlying4 rfl rfl) rfl rfl rfl ?_
                    refine tr_val (ov_move rfl rfl) rfl rfl rfl ?_
                    refine tr_splitb (t := 94) rfl (fun s94 => ?_) (fun s94 => ?_)
                    · exact absurd s94 (by simp [hzl2])
                    · skip
                      refine tr_val (ov_move rfl rfl) rfl rfl rfl ?_
                      refine tr_val (ov_move rfl rfl) rfl rfl rfl ?_
                      refine tr_split (t := 96) rfl (fun s96 => ?_) (fun s96 => ?_)
                      · skip
                        refine tr_val (ov_move rfl rfl) rfl rfl rfl ?_
                        refine tr_val (ov_fieldAddr rfl Try.underlying48 rfl (Try.sizeOf46 _) (by decide) rfl) rfl rfl rfl ?_
                        refine tr_val (ov_load_blk H.get5 rfl (Try.isAgg46 _) rfl rfl rfl) rfl rfl rfl ?_
                        refine tr_val (ov_indexAddrR (rdr_rd H.get2) rfl Try.underlying46 (Try.sizeOf59 _) rfl rfl (by omega) (by omega)) rfl rfl rfl ?_
                        refine tr_val (ov_fieldAddr rfl Try.underlying59 rfl (Try.sizeOf2 _) (by decide) rfl) rfl rfl rfl ?_
                        refine tr_val (ld_RThing_2 (rdr_rd H.get2) rfl (Try.isAgg2 _) rfl (by omega) (by omega)) rfl rfl rfl ?_
                        refine tr_val (ov_neq rfl rfl rfl) rfl rfl rfl ?_
                        refine tr_val (ov_pick (vb := undef) rfl rfl rfl rfl) rfl rfl rfl ?_
                        refine tr_val (ov_pick_f (va := undef) rfl rfl rfl rfl) rfl rfl rfl ?_
                        refine tr_val (ov_move rfl rfl) rfl rfl rfl ?_
                        refine tr_split (t := 106) rfl (fun s106 => ?_) (fun s106 => ?_)
                        · exact (s106 (by rw [if_neg (by omega), sort_up hids2 hU2, zR_gt (by omega) (by omega)]; rfl)).elim
                        · skip
                          refine tr_val (ov_move rfl rfl) rfl rfl rfl ?_
                          refine tr_val (ov_not rfl rfl) rfl rfl rfl ?_
                          refine tr_val (ov_move rfl rfl) rfl rfl rfl ?_
                          refine tr_split (t := 109) rfl (fun s109 => ?_) (fun s109 => ?_)
                          · skip
                            refine tr_val (ov_move rfl rfl) rfl rfl rfl ?_
                            refine tr_val (ov_neq rfl rfl rfl) rfl rfl rfl ?_
                            refine tr_val (ov_pick (vb := undef) rfl rfl rfl rfl) rfl rfl rfl ?_
                            refine tr_val (ov_pick_f (va := undef) rfl rfl rfl rfl) rfl rfl rfl ?_
                            refine tr_nil (hK20 _ _ (TrC.keep [113, 82, 9, 8, 40, 39, 38, 37, 5, 6, 23, 0, 1] ?_))
                            show TrC _ _ _ _ [(113, _), (82, _), (9, _), (8, _), (40, _), (39, _), (38, _), (37, _), (5, _), (6, _), (23, _), (0, _), (1, _)] _ _
                            refine tr_cond rfl (fun c113 => ?_) (fun c113 => ?_)
                            · exact (c113 (by rw [if_pos (by omega)])).elim
                            · skip
                              refine tr_skip (hK13 _ _ (TrC.keep [113, 82, 9, 8, 40, 39, 38, 37, 5, 6, 23, 0, 1] ?_))
                              show TrC _ _ _ _ [(113, _), (82, _), (9, _), (8, _), (40, _), (39, _), (38, _), (37, _), (5, _), (6, _), (23, _), (0, _), (1, _)] _ _
                              -- region 14: law.go:61
                              refine tr_region ?_
                              refine tr_val (ov_add rfl rfl rfl (w64 (by omega))) rfl rfl rfl ?_
                              refine tr_val (ov_move rfl rfl) rfl rfl rfl ?_
                              skip
                              exact tr_nil (hK10 (⟨i + 1, (stN n (gt Q i)), (stX n X (gt Q i)), A2, c2, L2⟩) _ _ (⟨by omega, by omega, hc2, hU2, hX2, H.drop0.drop0.drop2.top2.top1⟩) (by omega) (Sub.cons rfl (Sub.cons rfl (Sub.cons rfl (Sub.cons rfl (Sub.cons rfl (Sub.cons rfl (Sub.cons rfl (Sub.cons rfl Sub.nil)))))))))
                          · skip
                            refine tr_pass rfl rfl rfl ?_
                            refine tr_pass rfl rfl rfl ?_
                            refine tr_val (ov_pick_f (va := undef) rfl rfl rfl rfl) rfl rfl rfl ?_
                            refine tr_val (ov_pick_f (va := undef) rfl rfl rfl rfl) rfl rfl rfl ?_
                            refine tr_nil (hK20 _ _ (TrC.keep [113, 82, 9, 8, 40, 39, 38, 37, 5, 6, 23, 0, 1] ?_))
                            show TrC _ _ _ _ [(113, _), (82, _), (9, _), (8, _), (40, _), (39, _), (38, _), (37, _), (5, _), (6, _), (23, _), (0, _), (1, _)] _ _
                            refine tr_cond_f rfl rfl ?_
                            refine tr_skip (hK13 _ _ (TrC.keep [113, 82, 9, 8, 40, 39, 38, 37, 5, 6, 23, 0, 1] ?_))
                            show TrC _ _ _ _ [(113, _), (82, _), (9, _), (8, _), (40, _), (39, _), (38, _), (37, _), (5, _), (6, _), (23, _), (0, _), (1, _)] _ _
                            -- region 14: law.go:61
                            refine tr_region ?_
                            refine tr_val (ov_add rfl rfl rfl (w64 (by omega))) rfl rfl rfl ?_
                            refine tr_val (ov_move rfl rfl) rfl rfl rfl ?_
                            skip
                            exact tr_nil (hK10 (⟨i + 1, (stN n (gt Q i)), (stX n X (gt Q i)), A2, c2, L2⟩) _ _ (⟨by omega, by omega, hc2, hU2, hX2, H.drop0.drop0.drop2.top2.top1⟩) (by (dsimp only; omega)) (Sub.cons rfl (Sub.cons rfl (Sub.cons rfl (Sub.cons rfl (Sub.cons rfl (Sub.cons rfl (Sub.cons rfl (Sub.cons rfl Sub.nil)))))))))
                      · skip
                        refine tr_pass rfl rfl rfl ?_
                        refine tr_pass rfl rfl rfl ?_
                        refine tr_pass rfl rfl rfl ?_
                        refine tr_pass rfl rfl rfl ?_
                        refine tr_pass rfl rfl rfl ?_
                        refine tr_pass rfl rfl rfl ?_
                        refine tr_pass rfl rfl rfl ?_
                        refine tr_val (ov_pick_f (va := undef) rfl rfl rfl rfl) rfl rfl rfl ?_
                        refine tr_val (ov_pick_f (va := undef) rfl rfl rfl rfl) rfl rfl rfl ?_
                        refine tr_val (ov_move rfl rfl) rfl rfl rfl ?_
                        refine tr_val (ov_move rfl rfl) rfl rfl rfl ?_
                        refine tr_val (ov_not rfl rfl) rfl rfl rfl ?_
                        refine tr_val (ov_move rfl rfl) rfl rfl rfl ?_
                        refine tr_split (t := 109) rfl (fun s109 => ?_) (fun s109 => ?_)
                        · skip
                          refine tr_val (ov_move rfl rfl) rfl rfl rfl ?_
                          refine tr_val (ov_neq rfl rfl rfl) rfl rfl rfl ?_
                          refine tr_val (ov_pick (vb := undef) rfl rfl rfl rfl) rfl rfl rfl ?_
                          refine tr_val (ov_pick_f (va := undef) rfl rfl rfl rfl) rfl rfl rfl ?_
                          refine tr_nil (hK20 _ _ (TrC.keep [113, 82, 9, 8, 40, 39, 38, 37, 5, 6, 23, 0, 1] ?_))
                          show TrC _ _ _ _ [(113, _), (82, _), (9, _), (8, _), (40, _), (39, _), (38, _), (37, _), (5, _), (6, _), (23, _), (0, _), (1, _)] _ _
                          refine tr_cond rfl (fun c113 => ?_) (fun c113 => ?_)
                          · exact (c113 (by rw [if_pos (by omega)])).elim
                          · skip
                            refine tr_skip (hK13 _ _ (TrC.keep [113, 82, 9, 8, 40, 39, 38, 37, 5, 6, 23, 0, 1] ?_))
                            show TrC _ _ _ _ [(113, _), (82, _), (9, _), (8, _), (40, _), (39, _), (38, _), (37, _), (5, _), (6, _), (23, _), (0, _), (1, _)] _ _
                            -- region 14: law.go:61
                            refine tr_region ?_
                            refine tr_val (ov_add rfl rfl rfl (w64 (by omega))) rfl rfl rfl ?_
                            refine tr_val (ov_move rfl rfl) rfl rfl rfl ?_
                            skip
                            exact tr_nil (hK10 (⟨i + 1, (stN n (gt Q i)), (stX n X (gt Q i)), A2, c2, L2⟩) _ _ (⟨by omega, by omega, hc2, hU2, hX2, H.drop0.drop0.drop2.top2.top1⟩) (by (dsimp only; omega)) (Sub.cons rfl (Sub.cons rfl (Sub.cons rfl (Sub.cons rfl (Sub.cons rfl (Sub.cons rfl (Sub.cons rfl (Sub.cons rfl Sub.nil)))))))))
                        · skip
                          refine tr_pass rfl rfl rfl ?_
                          refine tr_pass rfl rfl rfl ?_
                          refine tr_val (ov_pick_f (va := undef) rfl rfl rfl rfl) rfl rfl rfl ?_
                          refine tr_val (ov_pick_f (va := undef) rfl rfl rfl rfl) rfl rfl rfl ?_
                          refine tr_nil (hK20 _ _ (TrC.keep [113, 82, 9, 8, 40, 39, 38, 37, 5, 6, 23, 0, 1] ?_))
                          show TrC _ _ _ _ [(113, _), (82, _), (9, _), (8, _), (40, _), (39, _), (38, _), (37, _), (5, _), (6, _), (23, _), (0, _), (1, _)] _ _
                          refine tr_cond_f rfl rfl ?_
                          refine tr_skip (hK13 _ _ (TrC.keep [113, 82, 9, 8, 40, 39, 38, 37, 5, 6, 23, 0, 1] ?_))
                          show TrC _ _ _ _ [(113, _), (82, _), (9, _), (8, _), (40, _), (39, _), (38, _), (37, _), (5, _), (6, _), (23, _), (0, _), (1, _)] _ _
                          -- region 14: law.go:61
                          refine tr_region ?_
                          refine tr_val (ov_add rfl rfl rfl (w64 (by omega))) rfl rfl rfl ?_
                          refine tr_val (ov_move rfl rfl) rfl rfl rfl ?_
                          skip
                          exact tr_nil (hK10 (⟨i + 1, (stN n (gt Q i)), (stX n X (gt Q i)), A2, c2, L2⟩) _ _ (⟨by omega, by omega, hc2, hU2, hX2, H.drop0.drop0.drop2.top2.top1⟩) (by omega) (Sub.cons rfl (Sub.cons rfl (Sub.cons rfl (Sub.cons rfl (Sub.cons rfl (Sub.cons rfl (Sub.cons rfl (Sub.cons rfl Sub.nil)))))))))
        · skip
          refine tr_exit (hK8 _ _ (TrC.keep [40, 39, 38, 37, 5, 6, 23, 0, 1] ?_))
          show TrC _ _ _ _ [(40, _), (39, _), (38, _), (37, _), (5, _), (6, _), (23, _), (0, _), (1, _)] _ _
          refine tr_seq (fun K21 hK21 => ?_)
          -- region 15: law.go:72
          refine tr_region ?_
          refine tr_call (lives12_c _) rfl rfl rfl Try.call13 rfl rfl rfl ?_
          rintro _ w28 ⟨rfl, HC⟩
          have H := H.call0n HC
          refine tr_val (ov_assign rfl rfl) rfl rfl rfl ?_
          refine tr_nil (hK21 _ _ (TrC.keep [4, 40, 39, 38, 37, 5, 6, 23, 0, 1] ?_))
          show TrC _ _ _ _ [(4, _), (40, _), (39, _), (38, _), (37, _), (5, _), (6, _), (23, _), (0, _), (1, _)] _ _
          refine tr_ret (post_ret1 (.inr rfl) rfl rfl ?_)
          exact ⟨rfl, H.drop0.drop0.drop0⟩

end Go.Proofs.Ytblipnjjgbggiaa
