/- Contracts of wheel.Wheel: do of law 13, DeadlinePlays, DeadlineApart. Conditions: none. -/
import Derived.Test.YtblipnjjgbggiaaDlD
namespace Go.Proofs.Ytblipnjjgbggiaa
open Go Go.RowKit
set_option linter.unusedVariables false
set_option linter.unusedSimpArgs false

theorem tup_t {a : Value} {b : Bool} (h : b = true) : Value.tuple #[a, .bool b] = .tuple #[a, .bool true] := by rw [h]
theorem idx_lt (id : Int) (W : List RThing) : idxR id W < W.length := by
  by_cases h : idxR id W < 0
  · omega
  · obtain ⟨r, hr⟩ := idxR_pos h
    exact (idxR_some hr).2.1
theorem rOr_z (id : Int) (X : List Thing) : rOr (findR id (zR X)) = toR (tOr (findT id X)) 0 := by
  rw [findR_z]; cases findT id X <;> rfl
theorem isSome_z (id : Int) (X : List Thing) : (findR id (zR X)).isSome = (findT id X).isSome := by rw [findR_z, Option.isSome_map]
theorem get_idx (id : Int) (X : List Thing) : ((findT id X).isSome == decide (0 ≤ idxR id (zR X))) = true := by
  rw [← isSome_z]
  by_cases h : idxR id (zR X) < 0
  · rw [idxR_neg h, decide_eq_false (by omega)]; rfl
  · obtain ⟨r, hr⟩ := idxR_pos h
    rw [hr, decide_eq_true (by omega)]; rfl

theorem tOr_neg {id : Int} {X : List Thing} (h : idxR id (zR X) < 0) : tOr (findT id X) = ⟨0, 0, 0⟩ := by
  have h1 := isSome_z id X
  rw [idxR_neg h] at h1
  cases h2 : findT id X with
  | none => rfl
  | some u => rw [h2] at h1; cases h1
theorem get_pos {id : Int} {X : List Thing} (h : ¬ idxR id (zR X) < 0) : toR (tOr (findT id X)) 0 = gt (zR X) (idxR id (zR X)) := by
  obtain ⟨r, hr⟩ := idxR_pos h
  rw [(idxR_some hr).2.2.1, ← rOr_z, hr]; rfl

def dN (now : Int) (q : DOp) : Int := if q.kind = 2 then advN now q.at_ else now
def dL (last : Int) (X : List Thing) (q : DOp) : Int := if q.kind = 1 ∨ q.kind = 2 ∨ q.kind = 3 then last else setN last X q.id q.at_
def dX (now last : Int) (X : List Thing) (q : DOp) : List Thing := if q.kind = 1 then dropT q.id X else if q.kind = 2 then advX now q.at_ X else if q.kind = 3 then X else setS last X q.id q.at_
theorem setX_perm (last : Int) (X : List Thing) (id due : Int) : (setX last X id due).Perm (setS last X id due) := by
  unfold setS setX
  split
  · exact (sortT_perm _).symm
  · exact .refl _
theorem setS_up {last : Int} {X : List Thing} {id due : Int} (h : UpT X) : UpT (setS last X id due) := by
  unfold setS; split
  · exact up_sortT _
  · exact h
theorem dX_up {now last : Int} {X : List Thing} {q : DOp} (h : UpT X) : UpT (dX now last X q) := by
  unfold dX
  split
  · exact upT_sub h dropT_sub
  · split
    · unfold advX; split
      · exact upT_sub h List.filter_sublist
      · exact h
    · split
      · exact h
      · exact setS_up h

/-! curfew/curfewlaw13.do -/
set_option maxRecDepth 20000 in
theorem do13_c (B : Option Addr) (c : Nat) (b : Nat) (now last : Int) (X : List Thing) (L : List Res) (w : World) (hX : BookX b now last X L) (hU : UpT X) (hc : (zR X).length ≤ c) (hO : Own [rdr B 4 ((zR X).map encRThing), pack L] w) (q : DOp) : Does Try.prog 38 #[.pointer (some ⟨b, 0, none⟩), .agg #[.int .i64 now, .int .u64 last, .slice B ((zR X)).length c], .agg #[.int .i64 q.kind, .int .u64 q.id, .int .i64 q.at_]] w (fun v w' => ∃ A' c', v = .tuple #[.agg #[.int .i64 (dN now q), .int .u64 (dL last X q), .slice A' ((zR (dX now last X q))).length c'], .bool true] ∧ (zR (dX now last X q)).length ≤ c' ∧ ∃ L', BookX b (dN now q) (dL last X q) (dX now last X q) L' ∧ SH w (footAll [rdr B 4 ((zR X).map encRThing), pack L]) [rdr A' 4 ((zR (dX now last X q)).map encRThing), pack L'] w') := by
  refine does_enter3 Try.func38 rfl Try.ntmps38 rfl ?_
  have H := SH.ofOwn hO
  obtain ⟨hids, hdue, hfew, hnow, hla⟩ := bookX_of hX
  have hzl := zR_len X
  refine tr_seq (fun K1 hK1 => ?_)
  -- region 0: law.go:45
  refine tr_region ?_
  refine tr_box H rfl rfl rfl rfl rfl rfl ?_
  intro b1 w1 hb1 H
  refine tr_box H rfl rfl rfl rfl rfl rfl ?_
  intro b2 w2 hb2 H
  refine tr_alloc H rfl (Try.zeroValue85 _) rfl rfl rfl rfl ?_
  intro b3 w3 hb3 H
  refine tr_val (ov_assign rfl rfl) rfl rfl rfl ?_
  refine tr_nil (hK1 _ _ (TrC.keep [7, 6, 5, 4, 0] ?_))
  show TrC _ _ _ _ [(7, _), (6, _), (5, _), (4, _), (0, _)] _ _
  refine tr_seq (fun K2 hK2 => ?_)
  -- region 1: law.go:46
  refine tr_region ?_
  refine tr_val (ov_fieldAddr rfl Try.underlying74 rfl (Try.sizeOf3 _) (by decide) rfl) rfl rfl rfl ?_
  refine tr_val (ov_load_blk H.get1 rfl (Try.isAgg3 _) rfl rfl rfl) rfl rfl rfl ?_
  refine tr_nil (hK2 _ _ (TrC.keep [27, 7, 6, 5, 4, 0] ?_))
  show TrC _ _ _ _ [(27, _), (7, _), (6, _), (5, _), (4, _), (0, _)] _ _
  refine tr_block ?_
  refine tr_seq (fun K3 hK3 => ?_)
  -- region 5: law.go:47
  refine tr_region ?_
  refine tr_val (ov_eql rfl rfl rfl) rfl rfl rfl ?_
  refine tr_val (ov_assign rfl rfl) rfl rfl rfl ?_
  refine tr_nil (hK3 _ _ (TrC.keep [56, 27, 7, 6, 5, 4, 0] ?_))
  show TrC _ _ _ _ [(56, _), (27, _), (7, _), (6, _), (5, _), (4, _), (0, _)] _ _
  refine tr_cond rfl (fun c56 => ?_) (fun c56 => ?_)
  · skip
    refine tr_seq (fun K4 hK4 => ?_)
    -- region 6: law.go:48
    refine tr_region ?_
    refine tr_val (ov_load_blkN H.get2 rfl (Try.isAgg85 _) (Try.sizeOf85 _) rfl rfl rfl) rfl rfl rfl ?_
    refine tr_val (ov_fieldAddr rfl Try.underlying74 rfl (Try.sizeOf28 _) (by decide) rfl) rfl rfl rfl ?_
    refine tr_val (ov_load_blk H.get1 rfl (Try.isAgg28 _) rfl rfl rfl) rfl rfl rfl ?_
    refine tr_call (ClearR_c B c (zR X) now last _ (by omega) hc H.get3 q.id) rfl rfl rfl Try.call74 rfl rfl rfl ?_
    rintro _ w4 ⟨A1, c1, rfl, hc1, HC⟩
    have H := H.top3.call1 HC
    rw [dropR_z] at H hc1 ⊢
    rw [rOr_z, isSome_z]
    refine tr_val (ov_move rfl rfl) rfl rfl rfl ?_
    refine tr_val (ov_extract rfl rfl rfl) rfl rfl rfl ?_
    refine tr_val (ov_extract rfl rfl rfl) rfl rfl rfl ?_
    refine tr_val (ov_extract rfl rfl rfl) rfl rfl rfl ?_
    refine tr_alloc H rfl (Try.zeroValue85 _) rfl rfl rfl rfl ?_
    intro b5 w5 hb5 H
    refine tr_alloc H rfl (Try.zeroValue59 _) rfl rfl rfl rfl ?_
    intro b6 w6 hb6 H
    (refine tr_storeW H.get1 rfl (Try.sizeOf85 _) rfl rfl rfl rfl rfl rfl rfl rfl ?_; intro w7 U; have H := H.upd1 U; clear U)
    (refine tr_storeW H.get0 rfl (Try.sizeOf59 _) rfl rfl rfl rfl rfl rfl rfl rfl ?_; intro w8 U; have H := H.upd0 U; clear U)
    refine tr_val (ov_assign rfl rfl) rfl rfl rfl ?_
    refine tr_nil (hK4 _ _ (TrC.keep [10, 9, 8, 56, 27, 7, 6, 5, 4, 0] ?_))
    show TrC _ _ _ _ [(10, _), (9, _), (8, _), (56, _), (27, _), (7, _), (6, _), (5, _), (4, _), (0, _)] _ _
    refine tr_seq (fun K5 hK5 => ?_)
    -- region 7: law.go:49
    refine tr_region ?_
    refine tr_val (ov_move rfl rfl) rfl rfl rfl ?_
    refine tr_val (ov_fieldAddr rfl Try.underlying74 rfl (Try.sizeOf28 _) (by decide) rfl) rfl rfl rfl ?_
    refine tr_val (ov_load_blk H.get4 rfl (Try.isAgg28 _) rfl rfl rfl) rfl rfl rfl ?_
    refine tr_call (bClear_c b now last X L _ hX H.get6 q.id) rfl rfl rfl Try.call30 rfl rfl rfl ?_
    rintro _ w9 ⟨rfl, L1, hX1, HC⟩
    have H := H.top6.call1 HC
    refine tr_val (ov_move rfl rfl) rfl rfl rfl ?_
    refine tr_val (ov_extract rfl rfl rfl) rfl rfl rfl ?_
    refine tr_val (ov_extract rfl rfl rfl) rfl rfl rfl ?_
    refine tr_alloc H rfl (Try.zeroValue30 _) rfl rfl rfl rfl ?_
    intro b7 w10 hb7 H
    (refine tr_storeW H.get0 rfl (Try.sizeOf30 _) rfl rfl rfl rfl rfl rfl rfl rfl ?_; intro w11 U; have H := H.upd0 U; clear U)
    refine tr_val (ov_assign rfl rfl) rfl rfl rfl ?_
    refine tr_nil (hK5 _ _ (TrC.keep [12, 11, 10, 9, 8, 56, 27, 7, 6, 5, 4, 0] ?_))
    show TrC _ _ _ _ [(12, _), (11, _), (10, _), (9, _), (8, _), (56, _), (27, _), (7, _), (6, _), (5, _), (4, _), (0, _)] _ _
    refine tr_seq (fun K6 hK6 => ?_)
    -- region 8: law.go:50
    refine tr_held (fun w' => (blk b5 85 [.int .i64 now, .int .u64 last, .slice A1 ((zR (dropT q.id X))).length c1]).holds w' ∧ (blk b7 30 [.int .u64 (tOr (findT q.id X)).id, .int .u64 (tOr (findT q.id X)).gen, .int .i64 (tOr (findT q.id X)).due]).holds w' ∧ (blk b6 59 [.int .u64 (toR (tOr (findT q.id X)) 0).id, .int .u64 (toR (tOr (findT q.id X)) 0).gen, .int .i64 (toR (tOr (findT q.id X)) 0).due, .int .i64 (toR (tOr (findT q.id X)) 0).slot]).holds w') mixed rfl H ?_
    intro w12 H
    refine th_take 0 rfl (by kernel_rfl) (by kernel_rfl) (by kernel_rfl) (⟨H.get3, H.get0, H.get2⟩) (fun _ hS => ov_load_blkN hS.1 rfl (Try.isAgg85 _) (Try.sizeOf85 _) rfl rfl rfl) rfl rfl rfl ?_
    refine th_take 1 rfl (by kernel_rfl) (by kernel_rfl) (by kernel_rfl) (⟨H.get3, H.get0, H.get2⟩) (fun _ hS => ov_move rfl rfl) rfl rfl rfl ?_
    refine th_take 2 rfl (by kernel_rfl) (by kernel_rfl) (by kernel_rfl) (⟨H.get3, H.get0, H.get2⟩) (fun _ hS => ov_move rfl rfl) rfl rfl rfl ?_
    refine th_take 3 rfl (by kernel_rfl) (by kernel_rfl) (by kernel_rfl) (⟨H.get3, H.get0, H.get2⟩) (fun _ hS => ov_eqlb rfl Try.underlying4 rfl rfl) rfl rfl rfl ?_
    refine th_take 4 rfl (by kernel_rfl) (by kernel_rfl) (by kernel_rfl) (⟨H.get3, H.get0, H.get2⟩) (fun _ hS => ov_move rfl rfl) rfl rfl rfl ?_
    refine th_split (t := 77) rfl (fun s77 => ?_) (fun s77 => ?_)
    · skip
      refine th_take 5 rfl (by kernel_rfl) (by kernel_rfl) (by kernel_rfl) (⟨H.get3, H.get0, H.get2⟩) (fun _ hS => ov_load_blkN hS.2.1 rfl (Try.isAgg30 _) (Try.sizeOf30 _) rfl rfl rfl) rfl rfl rfl ?_
      refine th_take 7 rfl (by kernel_rfl) (by kernel_rfl) (by kernel_rfl) (⟨H.get3, H.get0, H.get2⟩) (fun _ hS => ov_load_blkN hS.2.2 rfl (Try.isAgg59 _) (Try.sizeOf59 _) rfl rfl rfl) rfl rfl rfl ?_
      refine th_one 6 (by kernel_rfl) ?_
      refine tw_call (Plain_c (tOr (findT q.id X)) _) rfl rfl rfl rfl Try.call65 rfl rfl rfl ?_
      rintro _ w13 ⟨rfl, HC⟩
      have H := H.call0n HC
      refine ⟨⟨H.get3, H.get0, H.get2⟩, ?_⟩
      refine th_take 8 rfl (by kernel_rfl) (by kernel_rfl) (by kernel_rfl) (⟨H.get3, H.get0, H.get2⟩) (fun _ hS => ov_eqRT (s := toR (tOr (findT q.id X)) 0) (t := toR (tOr (findT q.id X)) 0) rfl rfl rfl) rfl rfl rfl ?_
      refine th_take 9 rfl (by kernel_rfl) (by kernel_rfl) (by kernel_rfl) (⟨H.get3, H.get0, H.get2⟩) (fun _ hS => ov_pick (vb := undef) rfl rfl rfl rfl) rfl rfl rfl ?_
      refine th_one 10 (by kernel_rfl) ?_
      (refine tw_storeW H.get5 rfl rfl (Try.sizeOf85 _) rfl rfl rfl rfl rfl rfl rfl rfl ?_; intro w14 U; have H := H.upd5 U; clear U)
      refine ⟨⟨H.get3, H.get0, H.get2⟩, ?_⟩
      refine th_take 11 rfl (by kernel_rfl) (by kernel_rfl) (by kernel_rfl) (⟨H.get3, H.get0, H.get2⟩) (fun _ hS => ov_assign rfl rfl) rfl rfl rfl ?_
      refine th_done (by kernel_rfl) ?_
      refine hK6 _ _ (TrC.keep [7, 11, 9, 8, 56, 27, 6, 5, 4, 0] ?_)
      show TrC _ _ _ _ [(7, _), (11, _), (9, _), (8, _), (56, _), (27, _), (6, _), (5, _), (4, _), (0, _)] _ _
      refine tr_ret (post_ret2 (.inr rfl) rfl (by exact ⟨_, rfl, res_blkN H.get5 (Try.isAgg85 _) (Try.sizeOf85 _) rfl rfl⟩) rfl ?_)
      (have eN : dN now q = now := (by unfold dN; rw [if_neg (by omega)]); have eL : dL last X q = last := (by unfold dL; rw [if_pos (by omega)]); have eX : dX now last X q = dropT q.id X := (by unfold dX; rw [if_pos (by omega)]); rw [eN, eL, eX]; exact ⟨A1, c1, tup_t (decide_eq_true rfl), hc1, L1, hX1, H.drop0.drop1.drop1.drop2.drop2.drop2.top1⟩)
    · exact absurd (by simp) s77
  · skip
    refine tr_seq (fun K7 hK7 => ?_)
    -- region 9: law.go:51
    refine tr_region ?_
    refine tr_val (ov_eql rfl rfl rfl) rfl rfl rfl ?_
    refine tr_val (ov_assign rfl rfl) rfl rfl rfl ?_
    refine tr_nil (hK7 _ _ (TrC.keep [83, 56, 27, 7, 6, 5, 4, 0] ?_))
    show TrC _ _ _ _ [(83, _), (56, _), (27, _), (7, _), (6, _), (5, _), (4, _), (0, _)] _ _
    refine tr_cond rfl (fun c83 => ?_) (fun c83 => ?_)
    · skip
      refine tr_seq (fun K8 hK8 => ?_)
      -- region 10: law.go:52
      refine tr_region ?_
      refine tr_val (ov_load_blkN H.get2 rfl (Try.isAgg85 _) (Try.sizeOf85 _) rfl rfl rfl) rfl rfl rfl ?_
      refine tr_val (ov_fieldAddr rfl Try.underlying74 rfl (Try.sizeOf2 _) (by decide) rfl) rfl rfl rfl ?_
      refine tr_val (ov_load_blk H.get1 rfl (Try.isAgg2 _) rfl rfl rfl) rfl rfl rfl ?_
      refine tr_call (AdvR13_c B c (zR X) now last _ (by omega) hc H.get3 q.at_ (upD_z hU)) rfl rfl rfl Try.call75 rfl rfl rfl ?_
      rintro _ w15 ⟨Af, cf, A1, c1, rfl, hc1, HC⟩
      have H := H.top3.call1e HC
      rw [advXR_z, advFR_z hids hU] at H ⊢
      rw [advXR_z] at hc1
      refine tr_val (ov_move rfl rfl) rfl rfl rfl ?_
      refine tr_val (ov_extract rfl rfl rfl) rfl rfl rfl ?_
      refine tr_val (ov_extract rfl rfl rfl) rfl rfl rfl ?_
      refine tr_val (ov_extract rfl rfl rfl) rfl rfl rfl ?_
      refine tr_alloc H rfl (Try.zeroValue85 _) rfl rfl rfl rfl ?_
      intro b5 w16 hb5 H
      (refine tr_storeW H.get0 rfl (Try.sizeOf85 _) rfl rfl rfl rfl rfl rfl rfl rfl ?_; intro w17 U; have H := H.upd0 U; clear U)
      refine tr_val (ov_assign rfl rfl) rfl rfl rfl ?_
      refine tr_val (ov_assign rfl rfl) rfl rfl rfl ?_
      refine tr_nil (hK8 _ _ (TrC.keep [15, 14, 13, 83, 56, 27, 7, 6, 5, 4, 0] ?_))
      show TrC _ _ _ _ [(15, _), (14, _), (13, _), (83, _), (56, _), (27, _), (7, _), (6, _), (5, _), (4, _), (0, _)] _ _
      refine tr_seq (fun K9 hK9 => ?_)
      -- region 11: law.go:53
      refine tr_region ?_
      refine tr_val (ov_move rfl rfl) rfl rfl rfl ?_
      refine tr_val (ov_fieldAddr rfl Try.underlying74 rfl (Try.sizeOf2 _) (by decide) rfl) rfl rfl rfl ?_
      refine tr_val (ov_load_blk H.get4 rfl (Try.isAgg2 _) rfl rfl rfl) rfl rfl rfl ?_
      refine tr_call (bAdvance_c b now last X L _ hX H.get6 q.at_) rfl rfl rfl Try.call31 rfl rfl rfl ?_
      rintro _ w18 ⟨A5, c5, rfl, L1, hX1, HC⟩
      have H := H.top6.call1e HC
      have hfl : (advF now q.at_ X).length ≤ 256 := by unfold advF; split; (rw [(sortT_perm _).length_eq]; exact Nat.le_trans (List.length_filter_le _ _) hfew); simp
      have hzf := zR_len (advF now q.at_ X)
      refine tr_val (ov_move rfl rfl) rfl rfl rfl ?_
      refine tr_val (ov_extract rfl rfl rfl) rfl rfl rfl ?_
      refine tr_val (ov_extract rfl rfl rfl) rfl rfl rfl ?_
      refine tr_val (ov_assign rfl rfl) rfl rfl rfl ?_
      refine tr_val (ov_assign rfl rfl) rfl rfl rfl ?_
      refine tr_nil (hK9 _ _ (TrC.keep [17, 16, 15, 14, 13, 83, 56, 27, 7, 6, 5, 4, 0] ?_))
      show TrC _ _ _ _ [(17, _), (16, _), (15, _), (14, _), (13, _), (83, _), (56, _), (27, _), (7, _), (6, _), (5, _), (4, _), (0, _)] _ _
      refine tr_seq (fun K10 hK10 => ?_)
      -- region 12: law.go:54
      refine tr_held (fun w' => (blk b5 85 [.int .i64 (advN now q.at_), .int .u64 last, .slice A1 ((zR (advX now q.at_ X))).length c1]).holds w') mixed rfl H ?_
      intro w19 H
      refine th_take 0 rfl (by kernel_rfl) (by kernel_rfl) (by kernel_rfl) (H.get2) (fun _ hS => ov_load_blkN hS rfl (Try.isAgg85 _) (Try.sizeOf85 _) rfl rfl rfl) rfl rfl rfl ?_
      refine th_take 1 rfl (by kernel_rfl) (by kernel_rfl) (by kernel_rfl) (H.get2) (fun _ hS => ov_move rfl rfl) rfl rfl rfl ?_
      refine th_take 2 rfl (by kernel_rfl) (by kernel_rfl) (by kernel_rfl) (H.get2) (fun _ hS => ov_move rfl rfl) rfl rfl rfl ?_
      refine th_take 3 rfl (by kernel_rfl) (by kernel_rfl) (by kernel_rfl) (H.get2) (fun _ hS => ov_eql rfl rfl rfl) rfl rfl rfl ?_
      refine th_take 4 rfl (by kernel_rfl) (by kernel_rfl) (by kernel_rfl) (H.get2) (fun _ hS => ov_move rfl rfl) rfl rfl rfl ?_
      refine th_split (t := 104) rfl (fun s104 => ?_) (fun s104 => ?_)
      · skip
        refine th_take 5 rfl (by kernel_rfl) (by kernel_rfl) (by kernel_rfl) (H.get2) (fun _ hS => ov_move rfl rfl) rfl rfl rfl ?_
        refine th_take 6 rfl (by kernel_rfl) (by kernel_rfl) (by kernel_rfl) (H.get2) (fun _ hS => ov_move rfl rfl) rfl rfl rfl ?_
        refine th_one 7 (by kernel_rfl) ?_
        refine tw_call (Same_c A5 c5 (advF now q.at_ X) _ (vec_rd H.get0 lenThing (by decide)) (by omega) Af cf (zR (advF now q.at_ X)) (vec_rd H.get4 lenRThing (by decide)) (by omega)) rfl rfl rfl rfl Try.call25 rfl rfl rfl ?_
        rintro _ w20 ⟨rfl, HC⟩
        have H := H.call0n HC
        refine ⟨H.get2, ?_⟩
        refine th_take 8 rfl (by kernel_rfl) (by kernel_rfl) (by kernel_rfl) (H.get2) (fun _ hS => ov_pick (vb := undef) rfl rfl rfl rfl) rfl rfl rfl ?_
        refine th_one 9 (by kernel_rfl) ?_
        (refine tw_storeW H.get5 rfl rfl (Try.sizeOf85 _) rfl rfl rfl rfl rfl rfl rfl rfl ?_; intro w21 U; have H := H.upd5 U; clear U)
        refine ⟨H.get2, ?_⟩
        refine th_take 10 rfl (by kernel_rfl) (by kernel_rfl) (by kernel_rfl) (H.get2) (fun _ hS => ov_assign rfl rfl) rfl rfl rfl ?_
        refine th_done (by kernel_rfl) ?_
        refine hK10 _ _ (TrC.keep [7, 13, 83, 56, 27, 6, 5, 4, 0] ?_)
        show TrC _ _ _ _ [(7, _), (13, _), (83, _), (56, _), (27, _), (6, _), (5, _), (4, _), (0, _)] _ _
        refine tr_ret (post_ret2 (.inr rfl) rfl (by exact ⟨_, rfl, res_blkN H.get5 (Try.isAgg85 _) (Try.sizeOf85 _) rfl rfl⟩) rfl ?_)
        (have eN : dN now q = advN now q.at_ := (by unfold dN; rw [if_pos (by omega)]); have eL : dL last X q = last := (by unfold dL; rw [if_pos (by omega)]); have eX : dX now last X q = advX now q.at_ X := (by unfold dX; rw [if_neg (by omega), if_pos (by omega)]); rw [eN, eL, eX]; exact ⟨A1, c1, tup_t (decide_eq_true (zR_plain _).symm), hc1, L1, hX1, H.drop0.drop1.drop2.drop2.drop2.drop2.top1⟩)
      · exact absurd rfl s104
    · skip
      refine tr_seq (fun K11 hK11 => ?_)
      -- region 13: law.go:55
      refine tr_region ?_
      refine tr_val (ov_eql rfl rfl rfl) rfl rfl rfl ?_
      refine tr_val (ov_assign rfl rfl) rfl rfl rfl ?_
      refine tr_nil (hK11 _ _ (TrC.keep [109, 83, 56, 27, 7, 6, 5, 4, 0] ?_))
      show TrC _ _ _ _ [(109, _), (83, _), (56, _), (27, _), (7, _), (6, _), (5, _), (4, _), (0, _)] _ _
      refine tr_cond rfl (fun c109 => ?_) (fun c109 => ?_)
      · skip
        refine tr_seq (fun K12 hK12 => ?_)
        -- region 14: law.go:56
        refine tr_region ?_
        refine tr_val (ov_move rfl rfl) rfl rfl rfl ?_
        refine tr_val (ov_fieldAddr rfl Try.underlying74 rfl (Try.sizeOf28 _) (by decide) rfl) rfl rfl rfl ?_
        refine tr_val (ov_load_blk H.get1 rfl (Try.isAgg28 _) rfl rfl rfl) rfl rfl rfl ?_
        refine tr_call (bGet_c b now last X L _ hX H.get4 q.id) rfl rfl rfl Try.call41 rfl rfl rfl ?_
        rintro _ w22 ⟨rfl, HC⟩
        have H := H.call0n HC
        refine tr_val (ov_move rfl rfl) rfl rfl rfl ?_
        refine tr_val (ov_extract rfl rfl rfl) rfl rfl rfl ?_
        refine tr_val (ov_extract rfl rfl rfl) rfl rfl rfl ?_
        refine tr_alloc H rfl (Try.zeroValue30 _) rfl rfl rfl rfl ?_
        intro b5 w23 hb5 H
        (refine tr_storeW H.get0 rfl (Try.sizeOf30 _) rfl rfl rfl rfl rfl rfl rfl rfl ?_; intro w24 U; have H := H.upd0 U; clear U)
        refine tr_val (ov_assign rfl rfl) rfl rfl rfl ?_
        refine tr_nil (hK12 _ _ (TrC.keep [19, 18, 109, 83, 56, 27, 7, 6, 5, 4, 0] ?_))
        show TrC _ _ _ _ [(19, _), (18, _), (109, _), (83, _), (56, _), (27, _), (7, _), (6, _), (5, _), (4, _), (0, _)] _ _
        refine tr_seq (fun K13 hK13 => ?_)
        -- region 15: law.go:57
        refine tr_region ?_
        refine tr_val (ov_fieldAddr rfl Try.underlying85 rfl (Try.sizeOf46 _) (by decide) rfl) rfl rfl rfl ?_
        refine tr_val (ov_load_blk H.get3 rfl (Try.isAgg46 _) rfl rfl rfl) rfl rfl rfl ?_
        refine tr_val (ov_fieldAddr rfl Try.underlying74 rfl (Try.sizeOf28 _) (by decide) rfl) rfl rfl rfl ?_
        refine tr_val (ov_load_blk H.get2 rfl (Try.isAgg28 _) rfl rfl rfl) rfl rfl rfl ?_
        refine tr_call (FindR_c B c (zR X) _ (rdr_rd H.get4) (by omega) q.id) rfl rfl rfl Try.call67 rfl rfl rfl ?_
        rintro _ w25 ⟨rfl, HC⟩
        have H := H.call0n HC
        refine tr_val (ov_assign rfl rfl) rfl rfl rfl ?_
        refine tr_nil (hK13 _ _ (TrC.keep [20, 19, 18, 109, 83, 56, 27, 7, 6, 5, 4, 0] ?_))
        show TrC _ _ _ _ [(20, _), (19, _), (18, _), (109, _), (83, _), (56, _), (27, _), (7, _), (6, _), (5, _), (4, _), (0, _)] _ _
        refine tr_seq (fun K14 hK14 => ?_)
        -- region 16: law.go:58
        have hi1 := idx_lt q.id (zR X)
        refine tr_held (fun w' => (blk b5 30 [.int .u64 (tOr (findT q.id X)).id, .int .u64 (tOr (findT q.id X)).gen, .int .i64 (tOr (findT q.id X)).due]).holds w' ∧ (blk b1 85 [.int .i64 now, .int .u64 last, .slice B ((zR X)).length c]).holds w' ∧ (rdr B 4 ((zR X).map encRThing)).holds w') mixed rfl H ?_
        intro w26 H
        refine th_take 0 rfl (by kernel_rfl) (by kernel_rfl) (by kernel_rfl) (⟨H.get0, H.get3, H.get4⟩) (fun _ hS => ov_load_blkN hS.2.1 rfl (Try.isAgg85 _) (Try.sizeOf85 _) rfl rfl rfl) rfl rfl rfl ?_
        refine th_take 1 rfl (by kernel_rfl) (by kernel_rfl) (by kernel_rfl) (⟨H.get0, H.get3, H.get4⟩) (fun _ hS => ov_move rfl rfl) rfl rfl rfl ?_
        refine th_take 2 rfl (by kernel_rfl) (by kernel_rfl) (by kernel_rfl) (⟨H.get0, H.get3, H.get4⟩) (fun _ hS => ov_move rfl rfl) rfl rfl rfl ?_
        refine th_take 3 rfl (by kernel_rfl) (by kernel_rfl) (by kernel_rfl) (⟨H.get0, H.get3, H.get4⟩) (fun _ hS => ov_geq rfl rfl rfl) rfl rfl rfl ?_
        refine th_take 4 rfl (by kernel_rfl) (by kernel_rfl) (by kernel_rfl) (⟨H.get0, H.get3, H.get4⟩) (fun _ hS => ov_eqlb rfl Try.underlying4 rfl rfl) rfl rfl rfl ?_
        refine th_take 5 rfl (by kernel_rfl) (by kernel_rfl) (by kernel_rfl) (⟨H.get0, H.get3, H.get4⟩) (fun _ hS => ov_move rfl rfl) rfl rfl rfl ?_
        refine th_split (t := 128) rfl (fun s128 => ?_) (fun s128 => ?_)
        · skip
          refine th_take 6 rfl (by kernel_rfl) (by kernel_rfl) (by kernel_rfl) (⟨H.get0, H.get3, H.get4⟩) (fun _ hS => ov_move rfl rfl) rfl rfl rfl ?_
          refine th_take 7 rfl (by kernel_rfl) (by kernel_rfl) (by kernel_rfl) (⟨H.get0, H.get3, H.get4⟩) (fun _ hS => ov_lss rfl rfl rfl) rfl rfl rfl ?_
          refine th_take 8 rfl (by kernel_rfl) (by kernel_rfl) (by kernel_rfl) (⟨H.get0, H.get3, H.get4⟩) (fun _ hS => ov_move rfl rfl) rfl rfl rfl ?_
          refine th_split (t := 131) rfl (fun s131 => ?_) (fun s131 => ?_)
          · skip
            refine th_take 9 rfl (by kernel_rfl) (by kernel_rfl) (by kernel_rfl) (⟨H.get0, H.get3, H.get4⟩) (fun _ hS => ov_load_blkN hS.1 rfl (Try.isAgg30 _) (Try.sizeOf30 _) rfl rfl rfl) rfl rfl rfl ?_
            refine th_take 10 rfl (by kernel_rfl) (by kernel_rfl) (by kernel_rfl) (⟨H.get0, H.get3, H.get4⟩) (fun _ hS => ov_build rfl (fun ρ k => bs0 k) (bld30 _)) rfl rfl rfl ?_
            refine th_take 11 rfl (by kernel_rfl) (by kernel_rfl) (by kernel_rfl) (⟨H.get0, H.get3, H.get4⟩) (fun _ hS => ov_eqTh (s := tOr (findT q.id X)) (t := ⟨0, 0, 0⟩) rfl rfl rfl) rfl rfl rfl ?_
            refine th_take 12 rfl (by kernel_rfl) (by kernel_rfl) (by kernel_rfl) (⟨H.get0, H.get3, H.get4⟩) (fun _ hS => ov_pick (vb := undef) rfl rfl rfl rfl) rfl rfl rfl ?_
            refine th_take 13 rfl (by kernel_rfl) (by kernel_rfl) (by kernel_rfl) (⟨H.get0, H.get3, H.get4⟩) (fun _ hS => ov_move rfl rfl) rfl rfl rfl ?_
            refine th_split (t := 136) rfl (fun s136 => ?_) (fun s136 => ?_)
            · skip
              refine th_pass 14 rfl (by kernel_rfl) (by kernel_rfl) (by kernel_rfl) (⟨H.get0, H.get3, H.get4⟩) rfl rfl rfl ?_
              refine th_pass 15 rfl (by kernel_rfl) (by kernel_rfl) (by kernel_rfl) (⟨H.get0, H.get3, H.get4⟩) rfl rfl rfl ?_
              refine th_pass 16 rfl (by kernel_rfl) (by kernel_rfl) (by kernel_rfl) (⟨H.get0, H.get3, H.get4⟩) rfl rfl rfl ?_
              refine th_pass 17 rfl (by kernel_rfl) (by kernel_rfl) (by kernel_rfl) (⟨H.get0, H.get3, H.get4⟩) rfl rfl rfl ?_
              refine th_pass 18 rfl (by kernel_rfl) (by kernel_rfl) (by kernel_rfl) (⟨H.get0, H.get3, H.get4⟩) rfl rfl rfl ?_
              refine th_pass 19 rfl (by kernel_rfl) (by kernel_rfl) (by kernel_rfl) (⟨H.get0, H.get3, H.get4⟩) rfl rfl rfl ?_
              refine th_pass 20 rfl (by kernel_rfl) (by kernel_rfl) (by kernel_rfl) (⟨H.get0, H.get3, H.get4⟩) rfl rfl rfl ?_
              refine th_pass 21 rfl (by kernel_rfl) (by kernel_rfl) (by kernel_rfl) (⟨H.get0, H.get3, H.get4⟩) rfl rfl rfl ?_
              refine th_pass 22 rfl (by kernel_rfl) (by kernel_rfl) (by kernel_rfl) (⟨H.get0, H.get3, H.get4⟩) rfl rfl rfl ?_
              refine th_pass 23 rfl (by kernel_rfl) (by kernel_rfl) (by kernel_rfl) (⟨H.get0, H.get3, H.get4⟩) rfl rfl rfl ?_
              refine th_pass 24 rfl (by kernel_rfl) (by kernel_rfl) (by kernel_rfl) (⟨H.get0, H.get3, H.get4⟩) rfl rfl rfl ?_
              refine th_pass 25 rfl (by kernel_rfl) (by kernel_rfl) (by kernel_rfl) (⟨H.get0, H.get3, H.get4⟩) rfl rfl rfl ?_
              refine th_take 26 rfl (by kernel_rfl) (by kernel_rfl) (by kernel_rfl) (⟨H.get0, H.get3, H.get4⟩) (fun _ hS => ov_pick (vb := undef) rfl rfl rfl rfl) rfl rfl rfl ?_
              refine th_take 27 rfl (by kernel_rfl) (by kernel_rfl) (by kernel_rfl) (⟨H.get0, H.get3, H.get4⟩) (fun _ hS => ov_pick (vb := undef) rfl rfl rfl rfl) rfl rfl rfl ?_
              refine th_one 28 (by kernel_rfl) ?_
              (refine tw_storeW H.get1 rfl rfl (Try.sizeOf85 _) rfl rfl rfl rfl rfl rfl rfl rfl ?_; intro w27 U; have H := H.upd1 U; clear U)
              refine ⟨⟨H.get0, H.get3, H.get4⟩, ?_⟩
              refine th_take 29 rfl (by kernel_rfl) (by kernel_rfl) (by kernel_rfl) (⟨H.get0, H.get3, H.get4⟩) (fun _ hS => ov_assign rfl rfl) rfl rfl rfl ?_
              refine th_done (by kernel_rfl) ?_
              refine hK14 _ _ (TrC.keep [7, 18, 109, 83, 56, 27, 6, 5, 4, 0] ?_)
              show TrC _ _ _ _ [(7, _), (18, _), (109, _), (83, _), (56, _), (27, _), (6, _), (5, _), (4, _), (0, _)] _ _
              refine tr_ret (post_ret2 (.inr rfl) rfl (by exact ⟨_, rfl, res_blkN H.get1 (Try.isAgg85 _) (Try.sizeOf85 _) rfl rfl⟩) rfl ?_)
              (have eN : dN now q = now := (by unfold dN; rw [if_neg (by omega)]); have eL : dL last X q = last := (by unfold dL; rw [if_pos (by omega)]); have eX : dX now last X q = X := (by unfold dX; rw [if_neg (by omega), if_neg (by omega), if_pos (by omega)]); rw [eN, eL, eX]; exact ⟨B, c, tup_t (rfl), hc, L, hX, H.drop0.drop0.drop0.drop0⟩)
            · exact absurd (tOr_neg s131) s136
          · skip
            refine th_pass 9 rfl (by kernel_rfl) (by kernel_rfl) (by kernel_rfl) (⟨H.get0, H.get3, H.get4⟩) rfl rfl rfl ?_
            refine th_pass 10 rfl (by kernel_rfl) (by kernel_rfl) (by kernel_rfl) (⟨H.get0, H.get3, H.get4⟩) rfl rfl rfl ?_
            refine th_pass 11 rfl (by kernel_rfl) (by kernel_rfl) (by kernel_rfl) (⟨H.get0, H.get3, H.get4⟩) rfl rfl rfl ?_
            refine th_take 12 rfl (by kernel_rfl) (by kernel_rfl) (by kernel_rfl) (⟨H.get0, H.get3, H.get4⟩) (fun _ hS => ov_pick_f (va := undef) rfl rfl rfl rfl) rfl rfl rfl ?_
            refine th_take 13 rfl (by kernel_rfl) (by kernel_rfl) (by kernel_rfl) (⟨H.get0, H.get3, H.get4⟩) (fun _ hS => ov_move rfl rfl) rfl rfl rfl ?_
            refine th_take 14 rfl (by kernel_rfl) (by kernel_rfl) (by kernel_rfl) (⟨H.get0, H.get3, H.get4⟩) (fun _ hS => ov_move rfl rfl) rfl rfl rfl ?_
            refine th_take 15 rfl (by kernel_rfl) (by kernel_rfl) (by kernel_rfl) (⟨H.get0, H.get3, H.get4⟩) (fun _ hS => ov_geq rfl rfl rfl) rfl rfl rfl ?_
            refine th_take 16 rfl (by kernel_rfl) (by kernel_rfl) (by kernel_rfl) (⟨H.get0, H.get3, H.get4⟩) (fun _ hS => ov_move rfl rfl) rfl rfl rfl ?_
            refine th_split (t := 139) rfl (fun s139 => ?_) (fun s139 => ?_)
            · skip
              refine th_take 17 rfl (by kernel_rfl) (by kernel_rfl) (by kernel_rfl) (⟨H.get0, H.get3, H.get4⟩) (fun _ hS => ov_load_blkN hS.1 rfl (Try.isAgg30 _) (Try.sizeOf30 _) rfl rfl rfl) rfl rfl rfl ?_
              refine th_take 19 rfl (by kernel_rfl) (by kernel_rfl) (by kernel_rfl) (⟨H.get0, H.get3, H.get4⟩) (fun _ hS => ov_fieldAddr rfl Try.underlying85 rfl (Try.sizeOf46 _) (by decide) rfl) rfl rfl rfl ?_
              refine th_take 20 rfl (by kernel_rfl) (by kernel_rfl) (by kernel_rfl) (⟨H.get0, H.get3, H.get4⟩) (fun _ hS => ov_load_blk hS.2.1 rfl (Try.isAgg46 _) rfl rfl rfl) rfl rfl rfl ?_
              refine th_take 21 rfl (by kernel_rfl) (by kernel_rfl) (by kernel_rfl) (⟨H.get0, H.get3, H.get4⟩) (fun _ hS => ov_move rfl rfl) rfl rfl rfl ?_
              refine th_take 22 rfl (by kernel_rfl) (by kernel_rfl) (by kernel_rfl) (⟨H.get0, H.get3, H.get4⟩) (fun _ hS => ov_indexAddrR (rdr_rd hS.2.2) rfl Try.underlying46 (Try.sizeOf59 _) rfl rfl (by omega) hi1) rfl rfl rfl ?_
              refine th_take 23 rfl (by kernel_rfl) (by kernel_rfl) (by kernel_rfl) (⟨H.get0, H.get3, H.get4⟩) (fun _ hS => ld_RThing (rdr_rd hS.2.2) rfl (Try.isAgg59 _) (Try.sizeOf59 _) rfl (by omega) hi1) rfl rfl rfl ?_
              refine th_one 18 (by kernel_rfl) ?_
              refine tw_call (Plain_c (tOr (findT q.id X)) _) rfl rfl rfl rfl Try.call65 rfl rfl rfl ?_
              rintro _ w28 ⟨rfl, HC⟩
              have H := H.call0n HC
              refine ⟨⟨H.get0, H.get3, H.get4⟩, ?_⟩
              refine th_take 24 rfl (by kernel_rfl) (by kernel_rfl) (by kernel_rfl) (⟨H.get0, H.get3, H.get4⟩) (fun _ hS => ov_eqRT (s := toR (tOr (findT q.id X)) 0) (t := gt (zR X) (idxR q.id (zR X))) rfl rfl rfl) rfl rfl rfl ?_
              refine th_take 25 rfl (by kernel_rfl) (by kernel_rfl) (by kernel_rfl) (⟨H.get0, H.get3, H.get4⟩) (fun _ hS => ov_pick (vb := undef) rfl rfl rfl rfl) rfl rfl rfl ?_
              refine th_take 26 rfl (by kernel_rfl) (by kernel_rfl) (by kernel_rfl) (⟨H.get0, H.get3, H.get4⟩) (fun _ hS => ov_pick_f (va := undef) rfl rfl rfl rfl) rfl rfl rfl ?_
              refine th_take 27 rfl (by kernel_rfl) (by kernel_rfl) (by kernel_rfl) (⟨H.get0, H.get3, H.get4⟩) (fun _ hS => ov_pick (vb := undef) rfl rfl rfl rfl) rfl rfl rfl ?_
              refine th_one 28 (by kernel_rfl) ?_
              (refine tw_storeW H.get1 rfl rfl (Try.sizeOf85 _) rfl rfl rfl rfl rfl rfl rfl rfl ?_; intro w29 U; have H := H.upd1 U; clear U)
              refine ⟨⟨H.get0, H.get3, H.get4⟩, ?_⟩
              refine th_take 29 rfl (by kernel_rfl) (by kernel_rfl) (by kernel_rfl) (⟨H.get0, H.get3, H.get4⟩) (fun _ hS => ov_assign rfl rfl) rfl rfl rfl ?_
              refine th_done (by kernel_rfl) ?_
              refine hK14 _ _ (TrC.keep [7, 18, 109, 83, 56, 27, 6, 5, 4, 0] ?_)
              show TrC _ _ _ _ [(7, _), (18, _), (109, _), (83, _), (56, _), (27, _), (6, _), (5, _), (4, _), (0, _)] _ _
              refine tr_ret (post_ret2 (.inr rfl) rfl (by exact ⟨_, rfl, res_blkN H.get1 (Try.isAgg85 _) (Try.sizeOf85 _) rfl rfl⟩) rfl ?_)
              (have eN : dN now q = now := (by unfold dN; rw [if_neg (by omega)]); have eL : dL last X q = last := (by unfold dL; rw [if_pos (by omega)]); have eX : dX now last X q = X := (by unfold dX; rw [if_neg (by omega), if_neg (by omega), if_pos (by omega)]); rw [eN, eL, eX]; exact ⟨B, c, tup_t (decide_eq_true (get_pos s131)), hc, L, hX, H.drop0.drop0.drop0.drop0⟩)
            · exfalso; omega
        · exact absurd (beq_iff_eq.mp (get_idx q.id X)) s128
      · skip
        refine tr_seq (fun K15 hK15 => ?_)
        -- region 2: law.go:60
        refine tr_region ?_
        refine tr_val (ov_load_blkN H.get2 rfl (Try.isAgg85 _) (Try.sizeOf85 _) rfl rfl rfl) rfl rfl rfl ?_
        refine tr_val (ov_fieldAddr rfl Try.underlying74 rfl (Try.sizeOf28 _) (by decide) rfl) rfl rfl rfl ?_
        refine tr_val (ov_load_blk H.get1 rfl (Try.isAgg28 _) rfl rfl rfl) rfl rfl rfl ?_
        refine tr_val (ov_fieldAddr rfl Try.underlying74 rfl (Try.sizeOf2 _) (by decide) rfl) rfl rfl rfl ?_
        refine tr_val (ov_load_blk H.get1 rfl (Try.isAgg2 _) rfl rfl rfl) rfl rfl rfl ?_
        refine tr_call (SetR13_c B c X now last _ hfew hla hc H.get3 q.id q.at_) rfl rfl rfl Try.call76 rfl rfl rfl ?_
        rintro _ w30 ⟨A1, c1, rfl, hc1, HC⟩
        have H := H.top3.call1 HC
        refine tr_val (ov_move rfl rfl) rfl rfl rfl ?_
        refine tr_val (ov_extract rfl rfl rfl) rfl rfl rfl ?_
        refine tr_val (ov_extract rfl rfl rfl) rfl rfl rfl ?_
        refine tr_val (ov_extract rfl rfl rfl) rfl rfl rfl ?_
        refine tr_alloc H rfl (Try.zeroValue85 _) rfl rfl rfl rfl ?_
        intro b5 w31 hb5 H
        (refine tr_storeW H.get0 rfl (Try.sizeOf85 _) rfl rfl rfl rfl rfl rfl rfl rfl ?_; intro w32 U; have H := H.upd0 U; clear U)
        refine tr_val (ov_assign rfl rfl) rfl rfl rfl ?_
        refine tr_val (ov_assign rfl rfl) rfl rfl rfl ?_
        refine tr_nil (hK15 _ _ (TrC.keep [23, 22, 21, 109, 83, 56, 27, 7, 6, 5, 4, 0] ?_))
        show TrC _ _ _ _ [(23, _), (22, _), (21, _), (109, _), (83, _), (56, _), (27, _), (7, _), (6, _), (5, _), (4, _), (0, _)] _ _
        refine tr_seq (fun K16 hK16 => ?_)
        -- region 3: law.go:61
        refine tr_region ?_
        refine tr_val (ov_move rfl rfl) rfl rfl rfl ?_
        refine tr_val (ov_fieldAddr rfl Try.underlying74 rfl (Try.sizeOf28 _) (by decide) rfl) rfl rfl rfl ?_
        refine tr_val (ov_load_blk H.get3 rfl (Try.isAgg28 _) rfl rfl rfl) rfl rfl rfl ?_
        refine tr_val (ov_fieldAddr rfl Try.underlying74 rfl (Try.sizeOf2 _) (by decide) rfl) rfl rfl rfl ?_
        refine tr_val (ov_load_blk H.get3 rfl (Try.isAgg2 _) rfl rfl rfl) rfl rfl rfl ?_
        refine tr_call (bSet_c b now last X L _ hX H.get5 q.id q.at_) rfl rfl rfl Try.call32 rfl rfl rfl ?_
        rintro _ w33 ⟨rfl, L1, hX1, HC⟩
        have H := H.top5.call1 HC
        refine tr_val (ov_move rfl rfl) rfl rfl rfl ?_
        refine tr_val (ov_extract rfl rfl rfl) rfl rfl rfl ?_
        refine tr_val (ov_extract rfl rfl rfl) rfl rfl rfl ?_
        refine tr_val (ov_assign rfl rfl) rfl rfl rfl ?_
        refine tr_val (ov_assign rfl rfl) rfl rfl rfl ?_
        refine tr_nil (hK16 _ _ (TrC.keep [25, 24, 23, 22, 21, 109, 83, 56, 27, 7, 6, 5, 4, 0] ?_))
        show TrC _ _ _ _ [(25, _), (24, _), (23, _), (22, _), (21, _), (109, _), (83, _), (56, _), (27, _), (7, _), (6, _), (5, _), (4, _), (0, _)] _ _
        refine tr_seq (fun K17 hK17 => ?_)
        -- region 4: law.go:62
        refine tr_region ?_
        refine tr_val (ov_load_blkN H.get1 rfl (Try.isAgg85 _) (Try.sizeOf85 _) rfl rfl rfl) rfl rfl rfl ?_
        refine tr_val (ov_move rfl rfl) rfl rfl rfl ?_
        refine tr_val (ov_move rfl rfl) rfl rfl rfl ?_
        refine tr_val (ov_eql rfl rfl rfl) rfl rfl rfl ?_
        refine tr_val (ov_move rfl rfl) rfl rfl rfl ?_
        refine tr_split (t := 51) rfl (fun s51 => ?_) (fun s51 => ?_)
        · skip
          refine tr_val (ov_move rfl rfl) rfl rfl rfl ?_
          refine tr_val (ov_move rfl rfl) rfl rfl rfl ?_
          refine tr_val (ov_eql rfl rfl rfl) rfl rfl rfl ?_
          refine tr_val (ov_pick (vb := undef) rfl rfl rfl rfl) rfl rfl rfl ?_
          (refine tr_storeW H.get3 rfl (Try.sizeOf85 _) rfl rfl rfl rfl rfl rfl rfl rfl ?_; intro w34 U; have H := H.upd3 U; clear U)
          refine tr_val (ov_assign rfl rfl) rfl rfl rfl ?_
          refine tr_nil (hK17 _ _ (TrC.keep [7, 21, 109, 83, 56, 27, 6, 5, 4, 0] ?_))
          show TrC _ _ _ _ [(7, _), (21, _), (109, _), (83, _), (56, _), (27, _), (6, _), (5, _), (4, _), (0, _)] _ _
          refine tr_ret (post_ret2 (.inr rfl) rfl (by exact ⟨_, rfl, res_blkN H.get3 (Try.isAgg85 _) (Try.sizeOf85 _) rfl rfl⟩) rfl ?_)
          (have eN : dN now q = now := (by unfold dN; rw [if_neg (by omega)]); have eL : dL last X q = (setN last X q.id q.at_) := (by unfold dL; rw [if_neg (by omega)]); have eX : dX now last X q = setS last X q.id q.at_ := (by unfold dX; rw [if_neg (by omega), if_neg (by omega), if_neg (by omega)]); rw [eN, eL, eX]; exact ⟨A1, c1, tup_t (by exact decide_eq_true rfl), hc1, L1, bookX_perm hX1 (setX_perm last X q.id q.at_), H.drop1.drop2.drop2.drop2.top1⟩)
        · exact absurd rfl s51

end Go.Proofs.Ytblipnjjgbggiaa
