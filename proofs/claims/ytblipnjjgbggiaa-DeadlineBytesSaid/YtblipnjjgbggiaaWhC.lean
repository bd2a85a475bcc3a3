/- Contracts of wheel.Wheel: the turn, Advance. Conditions: none. -/
import Derived.Test.YtblipnjjgbggiaaWhB
import Derived.Test.YtblipnjjgbggiaaWheelU
namespace Go.Proofs.Ytblipnjjgbggiaa
open Go Go.RowKit
set_option linter.unusedVariables false
set_option linter.unusedSimpArgs false

/-! (*curfew/wheel.Wheel).put -/
set_option maxRecDepth 20000 in
theorem wput_d (d : Nat) (ds : List Nat) (f : Nat) (now : Int) (Rs : List (List RThing)) (Fv : List Thing) (L : List Res) (w : World) (hM : WheelD 65 117 161 30 d ds f now Rs Fv L) (hO : (pack L).holds w) (t : Thing) (hl : Rs.length = 4) (hfr : (placeV now t.due).1 = 4 → findT t.id Fv = none) (hsm : ∀ i : Int, 0 ≤ i → i < 4 → (gt Rs i).length ≤ 60000) : Does Try.prog 55 #[.pointer (some ⟨d, 0, none⟩), .agg #[.int .u64 t.id, .int .u64 t.gen, .int .i64 t.due]] w (fun v w' => ∃ L', WheelD 65 117 161 30 d ds f now (putRs now Rs t) (putFv now Fv t) L' ∧ SH w (pack L).foot [pack L'] w') := by
  refine does_enter2 Try.func55 rfl Try.ntmps55 rfl ?_
  have H := SH.own1 hO
  have hp := place_rng now t.due
  refine tr_seq (fun K1 hK1 => ?_)
  -- region 0: wheel.go:68
  refine tr_region ?_
  refine tr_box H rfl rfl rfl rfl rfl rfl ?_
  intro b1 w1 hb1 H
  refine tr_nil (hK1 _ _ (TrC.keep [3, 0] ?_))
  show TrC _ _ _ _ [(3, _), (0, _)] _ _
  refine tr_seq (fun K2 hK2 => ?_)
  -- region 1: wheel.go:69
  obtain ⟨m, E, ck, Ls, hG, hE, rfl⟩ := hM
  have hds := hG.1
  have H := SH.unpackL [_] H
  change SH w _ (blk b1 30 [.int .u64 t.id, .int .u64 t.gen, .int .i64 t.due] :: blk d 65 (cellsW now ds f) :: blk f 117 [.map (some m)] :: mapT m E ck :: Ls.map pack) _ at H
  refine tr_region ?_
  refine tr_val (ov_move rfl rfl) rfl rfl rfl ?_
  refine tr_val (ov_fieldAddr rfl Try.underlying30 rfl (Try.sizeOf2 _) (by decide) rfl) rfl rfl rfl ?_
  refine tr_val (ov_load_blk H.get0 rfl (Try.isAgg2 _) rfl rfl rfl) rfl rfl rfl ?_
  refine tr_call (place_c d now ds f _ H.get1 t.due) rfl rfl rfl Try.call93 rfl rfl rfl ?_
  rintro _ w2 ⟨rfl, HC⟩
  have H := H.call0n HC
  refine tr_val (ov_move rfl rfl) rfl rfl rfl ?_
  refine tr_val (ov_extract rfl rfl rfl) rfl rfl rfl ?_
  refine tr_val (ov_extract rfl rfl rfl) rfl rfl rfl ?_
  refine tr_val (ov_assign rfl rfl) rfl rfl rfl ?_
  refine tr_val (ov_assign rfl rfl) rfl rfl rfl ?_
  refine tr_nil (hK2 _ _ (TrC.keep [5, 4, 3, 0] ?_))
  show TrC _ _ _ _ [(5, _), (4, _), (3, _), (0, _)] _ _
  refine tr_seq (fun K3 hK3 => ?_)
  refine tr_seq (fun K4 hK4 => ?_)
  -- region 2: wheel.go:70
  refine tr_region ?_
  refine tr_val (ov_move rfl rfl) rfl rfl rfl ?_
  refine tr_val (ov_eql rfl rfl rfl) rfl rfl rfl ?_
  refine tr_nil (hK4 _ _ (TrC.keep [14, 5, 4, 3, 0] ?_))
  show TrC _ _ _ _ [(14, _), (5, _), (4, _), (3, _), (0, _)] _ _
  refine tr_cond rfl (fun c14 => ?_) (fun c14 => ?_)
  · skip
    refine tr_seq (fun K5 hK5 => ?_)
    -- region 3: wheel.go:71
    have hmf : mfind t.id E = none := by rw [hE.find]; exact hfr c14
    refine tr_held (fun w' => (blk b1 30 [.int .u64 t.id, .int .u64 t.gen, .int .i64 t.due]).holds w' ∧ (blk d 65 (cellsW now ds f)).holds w' ∧ (blk f 117 [.map (some m)]).holds w') mixed rfl H ?_
    intro w3 H
    refine th_take 0 rfl (by kernel_rfl) (by kernel_rfl) (by kernel_rfl) (⟨H.get0, H.get1, H.get2⟩) (fun _ hS => ov_move rfl rfl) rfl rfl rfl ?_
    refine th_take 1 rfl (by kernel_rfl) (by kernel_rfl) (by kernel_rfl) (⟨H.get0, H.get1, H.get2⟩) (fun _ hS => ov_nilCheck rfl rfl) rfl rfl rfl ?_
    refine th_take 2 rfl (by kernel_rfl) (by kernel_rfl) (by kernel_rfl) (⟨H.get0, H.get1, H.get2⟩) (fun _ hS => ov_fieldAddr rfl Try.underlying65 rfl (Try.sizeOf63 _) (by decide) rfl) rfl rfl rfl ?_
    refine th_take 3 rfl (by kernel_rfl) (by kernel_rfl) (by kernel_rfl) (⟨H.get0, H.get1, H.get2⟩) (fun _ hS => ov_load_blk hS.2.1 rfl (Try.isAgg63 _) rfl rfl (cellsW_far hds)) rfl rfl rfl ?_
    refine th_take 4 rfl (by kernel_rfl) (by kernel_rfl) (by kernel_rfl) (⟨H.get0, H.get1, H.get2⟩) (fun _ hS => ov_nilCheck rfl rfl) rfl rfl rfl ?_
    refine th_take 5 rfl (by kernel_rfl) (by kernel_rfl) (by kernel_rfl) (⟨H.get0, H.get1, H.get2⟩) (fun _ hS => ov_fieldAddr rfl Try.underlying117 rfl (Try.sizeOf71 _) (by decide) rfl) rfl rfl rfl ?_
    refine th_take 6 rfl (by kernel_rfl) (by kernel_rfl) (by kernel_rfl) (⟨H.get0, H.get1, H.get2⟩) (fun _ hS => ov_load_blk hS.2.2 rfl (Try.isAgg71 _) rfl rfl rfl) rfl rfl rfl ?_
    refine th_take 7 rfl (by kernel_rfl) (by kernel_rfl) (by kernel_rfl) (⟨H.get0, H.get1, H.get2⟩) (fun _ hS => ov_fieldAddr rfl Try.underlying30 rfl (Try.sizeOf28 _) (by decide) rfl) rfl rfl rfl ?_
    refine th_take 8 rfl (by kernel_rfl) (by kernel_rfl) (by kernel_rfl) (⟨H.get0, H.get1, H.get2⟩) (fun _ hS => ov_load_blk hS.1 rfl (Try.isAgg28 _) rfl rfl rfl) rfl rfl rfl ?_
    refine th_take 9 rfl (by kernel_rfl) (by kernel_rfl) (by kernel_rfl) (⟨H.get0, H.get1, H.get2⟩) (fun _ hS => ov_load_blkN hS.1 rfl (Try.isAgg30 _) (Try.sizeOf30 _) rfl rfl rfl) rfl rfl rfl ?_
    refine th_one 10 (by kernel_rfl) ?_
    refine tw_mapNew (u := t) H.get3 rfl hmf rfl Try.underlying71 Try.underlying28 rfl rfl rfl rfl rfl ?_
    intro w9 U; have H := H.upd3 U; clear U
    refine ⟨⟨H.get0, H.get1, H.get2⟩, ?_⟩
    refine th_done (by kernel_rfl) ?_
    refine hK5 _ _ (TrC.keep [14, 5, 4, 3, 0] ?_)
    show TrC _ _ _ _ [(14, _), (5, _), (4, _), (3, _), (0, _)] _ _
    refine tr_ret (post_ret0 (.inr rfl) rfl  ?_)
    unfold putRs putFv; rw [if_pos c14, if_pos c14]
    exact ⟨_, ⟨m, _, _, Ls, hG, hE.put t, rfl⟩, SH.pack1 H.drop0⟩
  · skip
    refine tr_skip (hK3 _ _ (TrC.keep [14, 5, 4, 3, 0] ?_))
    show TrC _ _ _ _ [(14, _), (5, _), (4, _), (3, _), (0, _)] _ _
    -- region 4: wheel.go:74
    refine tr_held (fun w' => (blk b1 30 [.int .u64 t.id, .int .u64 t.gen, .int .i64 t.due]).holds w' ∧ (blk d 65 (cellsW now ds f)).holds w') mixed rfl H ?_
    intro w4 H
    refine th_take 0 rfl (by kernel_rfl) (by kernel_rfl) (by kernel_rfl) (⟨H.get0, H.get1⟩) (fun _ hS => ov_move rfl rfl) rfl rfl rfl ?_
    refine th_take 1 rfl (by kernel_rfl) (by kernel_rfl) (by kernel_rfl) (⟨H.get0, H.get1⟩) (fun _ hS => ov_move rfl rfl) rfl rfl rfl ?_
    refine th_take 2 rfl (by kernel_rfl) (by kernel_rfl) (by kernel_rfl) (⟨H.get0, H.get1⟩) (fun _ hS => ov_nilCheck rfl rfl) rfl rfl rfl ?_
    refine th_take 3 rfl (by kernel_rfl) (by kernel_rfl) (by kernel_rfl) (⟨H.get0, H.get1⟩) (fun _ hS => ov_fieldAddr rfl Try.underlying65 rfl (Try.sizeOf62 _) (by decide) rfl) rfl rfl rfl ?_
    refine th_take 4 rfl (by kernel_rfl) (by kernel_rfl) (by kernel_rfl) (⟨H.get0, H.get1⟩) (fun _ hS => ov_indexAddrA rfl Try.underlying62 (Try.sizeOf61 _) rfl rfl (by omega) (by omega)) rfl rfl rfl ?_
    refine th_take 5 rfl (by kernel_rfl) (by kernel_rfl) (by kernel_rfl) (⟨H.get0, H.get1⟩) (fun _ hS => ov_load_blk hS.2 rfl (Try.isAgg61 _) rfl (adr_ring d (placeV now t.due).1.toNat) (cellsW_ring hds (by omega) (by omega))) rfl rfl rfl ?_
    refine th_take 6 rfl (by kernel_rfl) (by kernel_rfl) (by kernel_rfl) (⟨H.get0, H.get1⟩) (fun _ hS => ov_move rfl rfl) rfl rfl rfl ?_
    refine th_take 7 rfl (by kernel_rfl) (by kernel_rfl) (by kernel_rfl) (⟨H.get0, H.get1⟩) (fun _ hS => ov_load_blkN hS.1 rfl (Try.isAgg30 _) (Try.sizeOf30 _) rfl rfl rfl) rfl rfl rfl ?_
    refine th_one 8 (by kernel_rfl) ?_
    refine tw_call (ringPut_c (gt ds (placeV now t.due).1) (gt Rs (placeV now t.due).1) (gt Ls (placeV now t.due).1) _ (hG.2.2 _ (by omega) (by omega)) (SH.atGet [_, _, _, _] H (by omega) (by rw [hG.2.1]; omega)) (placeV now t.due).2 t (by have := hsm (placeV now t.due).1 (by omega) (by omega); omega)) rfl rfl rfl rfl Try.call94 rfl rfl rfl ?_
    rintro _ w5 ⟨rfl, L1, hL1, HC⟩
    have H := SH.atCall (f := pack) [_, _, _, _] L1 [] H (by omega) (by rw [hG.2.1]; omega) HC
    refine ⟨⟨H.get0, H.get1⟩, ?_⟩
    refine th_done (by kernel_rfl) ?_
    refine id (post_ret0 (.inl rfl) rfl  ?_)
    unfold putRs putFv; rw [if_neg c14, if_neg c14]
    exact ⟨_, ⟨m, E, ck, _, hG.set (by omega) (by omega) hl hL1, hE, rfl⟩, SH.pack1 H.drop0⟩

/-! (*curfew/wheel.Wheel).turn$1 -/
set_option maxRecDepth 20000 in
theorem down_c (B : Option Addr) (cB : Nat) (l : List Thing) (bl bt bw : Nat) (A1 : Option Addr) (c1 : Nat) (Lt : List Thing) (to_ : Int) (d : Nat) (ds : List Nat) (f : Nat) (Rs : List (List RThing)) (Fv : List Thing) (L : List Res) (w : World) (hM : WheelD 65 117 161 30 d ds f to_ Rs Fv L) (hO : Own [rdr B 3 (l.map encThing), blk bl 32 [.slice A1 (Lt).length c1], vec A1 c1 30 3 encThing (Lt), blk bt 2 [.int .i64 to_], blk bw 24 [.pointer (some ⟨d, 0, none⟩)], pack L] w) (hl : Rs.length = 4) (hids : Ids l) (hfr : ∀ t, t ∈ l → to_ < t.due → findT t.id Fv = none ∧ ∀ j : Int, 0 ≤ j → j < 4 → findR t.id (gt Rs j) = none) (hsl : l.length ≤ 10000) (hsR : ∀ j : Int, 0 ≤ j → j < 4 → (gt Rs j).length ≤ 10000) (hsL : Lt.length ≤ 10000) : Does Try.prog 95 #[.slice B l.length cB, .pointer (some ⟨bt, 0, none⟩), .pointer (some ⟨bl, 0, none⟩), .pointer (some ⟨bw, 0, none⟩)] w (fun v w' => ∃ A' c' Rs' L', Rs'.length = 4 ∧ (∀ j : Int, 0 ≤ j → j < 4 → gt Rs' j = gt Rs j ++ dnRing to_ l j) ∧ WheelD 65 117 161 30 d ds f to_ Rs' (Fv ++ dnFar to_ l) L' ∧ SH w (footAll [rdr B 3 (l.map encThing), blk bl 32 [.slice A1 (Lt).length c1], vec A1 c1 30 3 encThing (Lt), blk bt 2 [.int .i64 to_], blk bw 24 [.pointer (some ⟨d, 0, none⟩)], pack L]) [blk bl 32 [.slice A' (Lt ++ dnLate to_ l).length c'], vec A' c' 30 3 encThing (Lt ++ dnLate to_ l), blk bt 2 [.int .i64 to_], blk bw 24 [.pointer (some ⟨d, 0, none⟩)], pack L'] w') := by
  refine does_enter4 Try.func95 rfl Try.ntmps95 rfl ?_
  have H := SH.ofOwn hO
  refine tr_seq (fun K1 hK1 => ?_)
  -- region 0: wheel.go:147
  refine tr_region ?_
  refine tr_val (ov_move rfl rfl) rfl rfl rfl ?_
  refine tr_val (ov_len rfl rfl Try.underlying32 rfl) rfl rfl rfl ?_
  refine tr_val (ov_move rfl rfl) rfl rfl rfl ?_
  refine tr_nil (hK1 _ _ (TrC.keep [9, 8, 7, 1, 2, 3] ?_))
  show TrC _ _ _ _ [(9, _), (8, _), (7, _), (1, _), (2, _), (3, _)] _ _
  refine tr_block ?_
  refine tr_loop_ (X := Int × Option Addr × Nat × List (List RThing) × List Res) [8, 7, 1, 2, 3] (fun ⟨i, A2, c2, Rs2, L2⟩ => [(9, .int .i64 i)]) (fun ⟨i, A2, c2, Rs2, L2⟩ w' => 0 ≤ i ∧ i ≤ l.length ∧ Rs2.length = 4 ∧ (∀ j : Int, 0 ≤ j → j < 4 → gt Rs2 j = gt Rs j ++ dnRing to_ (l.take i.toNat) j) ∧ WheelD 65 117 161 30 d ds f to_ Rs2 (Fv ++ dnFar to_ (l.take i.toNat)) L2 ∧ SH w (footAll [rdr B 3 (l.map encThing), blk bl 32 [.slice A1 (Lt).length c1], vec A1 c1 30 3 encThing (Lt), blk bt 2 [.int .i64 to_], blk bw 24 [.pointer (some ⟨d, 0, none⟩)], pack L]) [rdr B 3 (l.map encThing), blk bl 32 [.slice A2 (Lt ++ dnLate to_ (l.take i.toNat)).length c2], vec A2 c2 30 3 encThing (Lt ++ dnLate to_ (l.take i.toNat)), blk bt 2 [.int .i64 to_], blk bw 24 [.pointer (some ⟨d, 0, none⟩)], pack L2] w') (fun ⟨i, A2, c2, Rs2, L2⟩ => (l.length - i).toNat) (⟨0, A1, c1, Rs, L⟩) (Sub.cons rfl (Sub.cons rfl (Sub.cons rfl (Sub.cons rfl (Sub.cons rfl (Sub.cons rfl Sub.nil)))))) (⟨by omega, by omega, hl, fun j h0 h1 => by show _ = _ ++ []; rw [List.append_nil], by show WheelD _ _ _ _ _ _ _ _ _ (Fv ++ []) _; rw [List.append_nil]; exact hM, by show SH _ _ [_, blk bl _ [.slice _ (Lt ++ []).length _], vec _ _ _ _ _ (Lt ++ []), _, _, _] _; rw [List.append_nil]; exact H⟩) ?_
  rintro ⟨i, A2, c2, Rs2, L2⟩ w1 ⟨hi0, hi1, hl2, hg2, hM2, H⟩ K2 hK2
  show TrC _ _ _ _ [(9, _), (8, _), (7, _), (1, _), (2, _), (3, _)] _ _
  refine tr_seq (fun K3 hK3 => ?_)
  -- region 1: wheel.go:147
  refine tr_region ?_
  refine tr_val (ov_lss rfl rfl rfl) rfl rfl rfl ?_
  refine tr_nil (hK3 _ _ (TrC.keep [10, 9, 8, 7, 1, 2, 3] ?_))
  show TrC _ _ _ _ [(10, _), (9, _), (8, _), (7, _), (1, _), (2, _), (3, _)] _ _
  refine tr_seq (fun K4 hK4 => ?_)
  refine tr_cond rfl (fun c10 => ?_) (fun c10 => ?_)
  · skip
    refine tr_skip (hK4 _ _ (TrC.keep [10, 9, 8, 7, 1, 2, 3] ?_))
    show TrC _ _ _ _ [(10, _), (9, _), (8, _), (7, _), (1, _), (2, _), (3, _)] _ _
    refine tr_seq (fun K5 hK5 => ?_)
    refine tr_block ?_
    refine tr_seq (fun K6 hK6 => ?_)
    -- region 2: wheel.go:147
    have hdl := dnLate_le (to_ := to_) (l := (l.take i.toNat))
    have hlt := List.length_take_le i.toNat l
    refine tr_region ?_
    refine tr_val (ov_indexAddrR (rdr_rd H.get0) rfl Try.underlying32 (Try.sizeOf30 _) rfl rfl (by omega) (by omega)) rfl rfl rfl ?_
    refine tr_val (ld_Thing (rdr_rd H.get0) rfl (Try.isAgg30 _) (Try.sizeOf30 _) rfl (by omega) (by omega)) rfl rfl rfl ?_
    refine tr_alloc H rfl (Try.zeroValue30 _) rfl rfl rfl rfl ?_
    intro b1 w2 hb1 H
    (refine tr_storeW H.get0 rfl (Try.sizeOf30 _) rfl rfl rfl rfl rfl rfl rfl rfl ?_; intro w3 U; have H := H.upd0 U; clear U)
    refine tr_nil (hK6 _ _ (TrC.keep [6, 10, 9, 8, 7, 1, 2, 3] ?_))
    show TrC _ _ _ _ [(6, _), (10, _), (9, _), (8, _), (7, _), (1, _), (2, _), (3, _)] _ _
    refine tr_seq (fun K7 hK7 => ?_)
    -- region 3: wheel.go:148
    refine tr_region ?_
    refine tr_val (ov_fieldAddr rfl Try.underlying30 rfl (Try.sizeOf2 _) (by decide) rfl) rfl rfl rfl ?_
    refine tr_val (ov_load_blk H.get0 rfl (Try.isAgg2 _) rfl rfl rfl) rfl rfl rfl ?_
    refine tr_val (ov_load_blk H.get4 rfl (Try.isAgg2 _) rfl rfl rfl) rfl rfl rfl ?_
    refine tr_val (ov_leq rfl rfl rfl) rfl rfl rfl ?_
    refine tr_nil (hK7 _ _ (TrC.keep [16, 6, 10, 9, 8, 7, 1, 2, 3] ?_))
    show TrC _ _ _ _ [(16, _), (6, _), (10, _), (9, _), (8, _), (7, _), (1, _), (2, _), (3, _)] _ _
    refine tr_cond rfl (fun c16 => ?_) (fun c16 => ?_)
    · skip
      -- region 4: wheel.go:149
      refine tr_region ?_
      refine tr_val (ov_load_blk H.get2 rfl (Try.isAgg32 _) rfl rfl rfl) rfl rfl rfl ?_
      refine tr_val (ov_load_blkN H.get0 rfl (Try.isAgg30 _) (Try.sizeOf30 _) rfl rfl rfl) rfl rfl rfl ?_
      refine tr_buildSlice H rfl Try.underlying32 info30 rfl (fun ρ k => bs1 k rfl) (by decide) (by decide) (fill_Thing_1 _ _ _) rfl rfl rfl ?_
      intro b19 wb190 hb19 H
      refine tr_append (M := [gt l i]) H.get4 (rd_blk [gt l i] H.get0 rfl lenThing) rfl rfl rfl Try.underlying32 info30 rfl rfl (show Try.t30.bytes = 24 from rfl) rfl (by decide) lenThing oneThing (by rw [List.length_append, List.length_singleton]; omega) (by rw [List.length_append, List.length_singleton]; unfold maxLen; omega) rfl rfl rfl ?_
      intro A3 c3 w30 U; have H := H.upd4 U; clear U
      (refine tr_store H.get3 rfl (Try.sizeOf32 _) rfl rfl rfl rfl rfl rfl rfl ?_; intro w4 U; have H := H.upd3 U; clear U)
      try simp only [List.set_cons_zero, List.set_cons_succ, Nat.zero_add] at H
      refine tr_nil (hK5 _ _ (TrC.keep [16, 6, 10, 9, 8, 7, 1, 2, 3] ?_))
      show TrC _ _ _ _ [(16, _), (6, _), (10, _), (9, _), (8, _), (7, _), (1, _), (2, _), (3, _)] _ _
      -- region 6: wheel.go:147
      refine tr_region ?_
      refine tr_val (ov_add rfl rfl rfl (w64 (by omega))) rfl rfl rfl ?_
      refine tr_val (ov_move rfl rfl) rfl rfl rfl ?_
      obtain ⟨q1, q2, q3⟩ := dnLate_in hi0 (by omega) c16
      exact tr_nil (hK2 (⟨i + 1, A3, c3, Rs2, L2⟩) _ _ (⟨by omega, by omega, hl2, fun j h0 h1 => by rw [q3 j]; exact hg2 j h0 h1, by rw [q2]; exact hM2, by rw [q1, ← List.append_assoc]; exact H.drop0.drop0⟩) (by (dsimp only; omega)) (Sub.cons rfl (Sub.cons rfl (Sub.cons rfl (Sub.cons rfl (Sub.cons rfl (Sub.cons rfl Sub.nil)))))))
    · skip
      -- region 5: wheel.go:151
      refine tr_region ?_
      refine tr_val (ov_load_blk H.get5 rfl (Try.isAgg24 _) rfl rfl rfl) rfl rfl rfl ?_
      refine tr_val (ov_load_blkN H.get0 rfl (Try.isAgg30 _) (Try.sizeOf30 _) rfl rfl rfl) rfl rfl rfl ?_
      refine tr_call (wput_d d ds f to_ Rs2 (Fv ++ dnFar to_ (l.take i.toNat)) L2 _ hM2 H.get6 (gt l i) hl2 (fun _ => dn_freshF hids hi0 (by omega) (hfr _ (gt_mem hi0 (by omega)) (by omega)).1) (fun j h0 h1 => by rw [hg2 j h0 h1, List.length_append]; have := hsR j h0 h1; have := dnRing_le (to_ := to_) (l := (l.take i.toNat)) (j := j); omega)) rfl rfl rfl Try.call55 rfl rfl rfl ?_
      rintro _ w5 ⟨L3, hL3, HC⟩
      have H := H.top6.call1 HC
      refine tr_nil (hK5 _ _ (TrC.keep [16, 6, 10, 9, 8, 7, 1, 2, 3] ?_))
      show TrC _ _ _ _ [(16, _), (6, _), (10, _), (9, _), (8, _), (7, _), (1, _), (2, _), (3, _)] _ _
      -- region 6: wheel.go:147
      refine tr_region ?_
      refine tr_val (ov_add rfl rfl rfl (w64 (by omega))) rfl rfl rfl ?_
      refine tr_val (ov_move rfl rfl) rfl rfl rfl ?_
      obtain ⟨q1, q2, q3⟩ := dnLate_out hi0 (by omega) c16
      have hfi := hfr _ (gt_mem (L := l) hi0 (by omega)) (by omega)
      rw [putFv_app] at hL3
      exact tr_nil (hK2 (⟨i + 1, A2, c2, (putRs to_ Rs2 (gt l i)), L3⟩) _ _ (⟨by omega, by omega, putRs_len hl2, fun j h0 h1 => by rw [putRs_at hl2 h0 h1 (fun k k0 k1 => by rw [hg2 k k0 k1]; exact dn_fresh hids hi0 (by omega) (hfi.2 k k0 k1)), q3 j, hg2 j h0 h1, List.append_assoc], by rw [q2]; exact hL3, by rw [q1]; exact rot1 H.drop1⟩) (by (dsimp only; omega)) (Sub.cons rfl (Sub.cons rfl (Sub.cons rfl (Sub.cons rfl (Sub.cons rfl (Sub.cons rfl Sub.nil)))))))
  · skip
    refine tr_exit (post_ret0 (.inl rfl) rfl  ?_)
    have e : l.take i.toNat = l := List.take_of_length_le (by omega)
    rw [e] at hg2 hM2 H
    exact ⟨A2, c2, Rs2, L2, hl2, hg2, hM2, H.drop0⟩

theorem downC (B : Option Addr) (cB : Nat) (l : List Thing) (bl bt bw : Nat) (A1 : Option Addr) (c1 : Nat) (Lt : List Thing) (to_ : Int) (d : Nat) (ds : List Nat) (f : Nat) (Rs : List (List RThing)) (Fv : List Thing) (L : List Res) (w : World) (hM : WheelD 65 117 161 30 d ds f to_ Rs Fv L) (hO : Own [rdr B 3 (l.map encThing), blk bl 32 [.slice A1 (Lt).length c1], vec A1 c1 30 3 encThing (Lt), blk bt 2 [.int .i64 to_], blk bw 24 [.pointer (some ⟨d, 0, none⟩)], pack L] w) (hl : Rs.length = 4) (hids : Ids l) (hfr : ∀ t, t ∈ l → to_ < t.due → findT t.id Fv = none ∧ ∀ j : Int, 0 ≤ j → j < 4 → findR t.id (gt Rs j) = none) (hsl : l.length ≤ 10000) (hsR : ∀ j : Int, 0 ≤ j → j < 4 → (gt Rs j).length ≤ 10000) (hsL : Lt.length ≤ 10000) : Does Try.prog 95 ([.slice B l.length cB] ++ [.pointer (some ⟨bt, 0, none⟩), .pointer (some ⟨bl, 0, none⟩), .pointer (some ⟨bw, 0, none⟩)] : List Value).toArray w (fun v w' => ∃ A' c' Rs' L', Rs'.length = 4 ∧ (∀ j : Int, 0 ≤ j → j < 4 → gt Rs' j = gt Rs j ++ dnRing to_ l j) ∧ WheelD 65 117 161 30 d ds f to_ Rs' (Fv ++ dnFar to_ l) L' ∧ SH w (footAll [rdr B 3 (l.map encThing), blk bl 32 [.slice A1 (Lt).length c1], vec A1 c1 30 3 encThing (Lt), blk bt 2 [.int .i64 to_], blk bw 24 [.pointer (some ⟨d, 0, none⟩)], pack L]) [blk bl 32 [.slice A' (Lt ++ dnLate to_ l).length c'], vec A' c' 30 3 encThing (Lt ++ dnLate to_ l), blk bt 2 [.int .i64 to_], blk bw 24 [.pointer (some ⟨d, 0, none⟩)], pack L'] w') := down_c B cB l bl bt bw A1 c1 Lt to_ d ds f Rs Fv L w hM hO hl hids hfr hsl hsR hsL

/-! (*curfew/wheel.Wheel).turn -/
set_option maxRecDepth 20000 in
theorem turn_c (d : Nat) (was to_ : Int) (X : List Thing) (L : List Res) (w : World) (hX : WheelX 65 117 161 30 d was X L) (hO : (pack L).holds w) (hlt : ∀ t, t ∈ X → was < t.due) (hwt : was ≤ to_) (hto : to_ ≤ 1125899906842624) : Does Try.prog 57 #[.pointer (some ⟨d, 0, none⟩), .int .i64 to_] w (fun v w' => ∃ A' c' l, v = .slice A' l.length c' ∧ l.Perm (X.filter fun t => decide (t.due ≤ to_)) ∧ ∃ L', WheelX 65 117 161 30 d to_ (X.filter fun t => decide (to_ < t.due)) L' ∧ SH w (pack L).foot [vec A' c' 30 3 encThing l, pack L'] w') := by
  refine does_enter2 Try.func57 rfl Try.ntmps57 rfl ?_
  have H := SH.own1 hO
  obtain ⟨Rs, Fv, hW, hM⟩ := hX
  refine tr_seq (fun K1 hK1 => ?_)
  -- region 0: wheel.go:143
  refine tr_region ?_
  refine tr_box H rfl rfl rfl rfl rfl rfl ?_
  intro b1 w1 hb1 H
  refine tr_box H rfl rfl rfl rfl rfl rfl ?_
  intro b2 w2 hb2 H
  refine tr_alloc H rfl (Try.zeroValue32 _) rfl rfl rfl rfl ?_
  intro b3 w3 hb3 H
  refine tr_nil (hK1 _ _ (TrC.keep [4, 3, 2] ?_))
  show TrC _ _ _ _ [(4, _), (3, _), (2, _)] _ _
  refine tr_seq (fun K2 hK2 => ?_)
  -- region 1: wheel.go:144
  obtain ⟨f, m, ds, E, ck, Ls, hG, hE, rfl⟩ := hM
  have hds := hG.1
  have H := SH.unpackL [_, _, _] H
  change SH w _ (blk b3 32 [.slice none 0 0] :: blk b2 2 [.int .i64 to_] :: blk b1 24 [.pointer (some ⟨d, 0, none⟩)] :: blk d 65 (cellsW was ds f) :: blk f 117 [.map (some m)] :: mapT m E ck :: Ls.map pack) _ at H
  have hn0 := hW.now0
  refine tr_region ?_
  refine tr_val (ov_load_blk H.get2 rfl (Try.isAgg24 _) rfl rfl rfl) rfl rfl rfl ?_
  refine tr_val (ov_nilCheck rfl rfl) rfl rfl rfl ?_
  refine tr_val (ov_fieldAddr rfl Try.underlying65 rfl (Try.sizeOf2 _) (by decide) rfl) rfl rfl rfl ?_
  refine tr_val (ov_load_blk H.get3 rfl (Try.isAgg2 _) rfl rfl rfl) rfl rfl rfl ?_
  refine tr_val (ov_assign rfl rfl) rfl rfl rfl ?_
  refine tr_nil (hK2 _ _ (TrC.keep [5, 4, 3, 2] ?_))
  show TrC _ _ _ _ [(5, _), (4, _), (3, _), (2, _)] _ _
  refine tr_seq (fun K3 hK3 => ?_)
  -- region 2: wheel.go:145
  refine tr_region ?_
  refine tr_val (ov_load_blk H.get2 rfl (Try.isAgg24 _) rfl rfl rfl) rfl rfl rfl ?_
  refine tr_val (ov_load_blk H.get1 rfl (Try.isAgg2 _) rfl rfl rfl) rfl rfl rfl ?_
  refine tr_val (ov_nilCheck rfl rfl) rfl rfl rfl ?_
  refine tr_val (ov_fieldAddr rfl Try.underlying65 rfl (Try.sizeOf2 _) (by decide) rfl) rfl rfl rfl ?_
  (refine tr_store H.get3 rfl (Try.sizeOf2 _) rfl rfl rfl rfl rfl rfl rfl ?_; intro w4 U; have H := H.upd3 U; clear U)
  try simp only [List.set_cons_zero, List.set_cons_succ, Nat.zero_add] at H
  refine tr_nil (hK3 _ _ (TrC.keep [5, 4, 3, 2] ?_))
  show TrC _ _ _ _ [(5, _), (4, _), (3, _), (2, _)] _ _
  refine tr_seq (fun K4 hK4 => ?_)
  -- region 3: wheel.go:146
  refine tr_region ?_
  refine tr_val (ov_makeFunc3 rfl rfl rfl rfl) rfl rfl rfl ?_
  refine tr_val (ov_assign rfl rfl) rfl rfl rfl ?_
  refine tr_nil (hK4 _ _ (TrC.keep [6, 5, 4, 3, 2] ?_))
  show TrC _ _ _ _ [(6, _), (5, _), (4, _), (3, _), (2, _)] _ _
  refine tr_seq (fun K5 hK5 => ?_)
  refine tr_seq (fun K6 hK6 => ?_)
  -- region 4: wheel.go:155
  change SH w _ (blk b3 32 [.slice none 0 0] :: blk b2 2 [.int .i64 to_] :: blk b1 24 [.pointer (some ⟨d, 0, none⟩)] :: blk d 65 (cellsW to_ ds f) :: blk f 117 [.map (some m)] :: mapT m E ck :: Ls.map pack) _ at H
  refine tr_region ?_
  refine tr_val (ov_load_blk H.get2 rfl (Try.isAgg24 _) rfl rfl rfl) rfl rfl rfl ?_
  refine tr_val (ov_nilCheck rfl rfl) rfl rfl rfl ?_
  refine tr_val (ov_fieldAddr rfl Try.underlying65 rfl (Try.sizeOf62 _) (by decide) rfl) rfl rfl rfl ?_
  refine tr_val (ov_load_blkP (vs := ds.map ptrN) H.get3 rfl (Try.isAgg62 _) (Try.sizeOf62 _) (arr_len hds) rfl rfl (cellsW_arr hds)) rfl rfl rfl ?_
  refine tr_val (ov_move rfl rfl) rfl rfl rfl ?_
  refine tr_nil (hK6 _ _ (TrC.keep [28, 27, 6, 5, 4, 3, 2] ?_))
  show TrC _ _ _ _ [(28, _), (27, _), (6, _), (5, _), (4, _), (3, _), (2, _)] _ _
  refine tr_block ?_
  have H := H.addNil 30 3 encThing
  have H := H.top1
  have H := SH.packL [_, _, _, _] H
  refine tr_loop_ (X := Int × List (List RThing) × List Thing × Option Addr × Nat × List Res) [27, 6, 5, 4, 3, 2] (fun ⟨i, Rs2, Lt, A2, c2, L2⟩ => [(28, .int .i64 i)]) (fun ⟨i, Rs2, Lt, A2, c2, L2⟩ w' => 0 ≤ i ∧ i ≤ 4 ∧ (∀ j : Int, 0 ≤ j → j < i → ¬ samI was to_ j) ∧ TFull was X i 0 Rs2 Lt ∧ WheelD 65 117 161 30 d ds f to_ Rs2 Fv L2 ∧ SH w (pack (wheelL 65 117 d f m was ds E ck Ls)).foot [blk b3 32 [.slice A2 (Lt).length c2], vec A2 c2 30 3 encThing (Lt), blk b2 2 [.int .i64 to_], blk b1 24 [.pointer (some ⟨d, 0, none⟩)], pack L2] w') (fun ⟨i, Rs2, Lt, A2, c2, L2⟩ => (4 - i).toNat) (⟨0, Rs, [], none, 0, wheelL 65 117 d f m to_ ds E ck Ls⟩) (Sub.cons rfl (Sub.cons rfl (Sub.cons rfl (Sub.cons rfl (Sub.cons rfl (Sub.cons rfl (Sub.cons rfl Sub.nil))))))) (⟨by omega, by omega, fun j h0 h1 => by omega, TFull.start hW, ⟨m, E, ck, Ls, hG, hE, rfl⟩, H⟩) ?_
  rintro ⟨i, Rs2, Lt, A2, c2, L2⟩ w5 ⟨hi0, hi1, hns, hT2, hM2, H⟩ K7 hK7
  show TrC _ _ _ _ [(28, _), (27, _), (6, _), (5, _), (4, _), (3, _), (2, _)] _ _
  refine tr_seq (fun K8 hK8 => ?_)
  -- region 5: wheel.go:155
  refine tr_region ?_
  refine tr_val (ov_lss rfl rfl rfl) rfl rfl rfl ?_
  refine tr_nil (hK8 _ _ (TrC.keep [29, 28, 27, 6, 5, 4, 3, 2] ?_))
  show TrC _ _ _ _ [(29, _), (28, _), (27, _), (6, _), (5, _), (4, _), (3, _), (2, _)] _ _
  refine tr_seq (fun K9 hK9 => ?_)
  refine tr_cond rfl (fun c29 => ?_) (fun c29 => ?_)
  · skip
    refine tr_skip (hK9 _ _ (TrC.keep [29, 28, 27, 6, 5, 4, 3, 2] ?_))
    show TrC _ _ _ _ [(29, _), (28, _), (27, _), (6, _), (5, _), (4, _), (3, _), (2, _)] _ _
    refine tr_seq (fun K10 hK10 => ?_)
    refine tr_block ?_
    refine tr_seq (fun K11 hK11 => ?_)
    -- region 6: wheel.go:155
    refine tr_region ?_
    refine tr_val (ov_move rfl rfl) rfl rfl rfl ?_
    refine tr_val (ov_indexArr (vs := ds.map ptrN) rfl Try.underlying62 (Try.sizeOf61 _) (Try.isAgg61 _) rfl rfl hi0 (by omega) (arr_at hds hi0 (by omega))) rfl rfl rfl ?_
    refine tr_val (ov_assign rfl rfl) rfl rfl rfl ?_
    refine tr_val (ov_assign rfl rfl) rfl rfl rfl ?_
    refine tr_nil (hK11 _ _ (TrC.keep [8, 7, 29, 28, 27, 6, 5, 4, 3, 2] ?_))
    show TrC _ _ _ _ [(8, _), (7, _), (29, _), (28, _), (27, _), (6, _), (5, _), (4, _), (3, _), (2, _)] _ _
    refine tr_seq (fun K12 hK12 => ?_)
    refine tr_seq (fun K13 hK13 => ?_)
    -- region 7: wheel.go:156
    refine tr_quiet mixed (by kernel_rfl) H ?_
    refine tq_val (fun _ H => ov_move rfl rfl) rfl rfl rfl ?_
    refine tq_val (fun _ H => ov_move rfl rfl) rfl rfl rfl ?_
    refine tq_val (fun _ H => ov_add rfl rfl rfl (w64 (by omega))) rfl rfl rfl ?_
    refine tq_val (fun _ H => ov_mul rfl rfl rfl (w64 (by omega))) rfl rfl rfl ?_
    refine tq_val (fun _ H => ov_shr rfl rfl rfl (by omega) (shr6 was (by omega) (by omega))) rfl rfl rfl ?_
    refine tq_val (fun _ H => ov_load_blk H.get2 rfl (Try.isAgg2 _) rfl rfl rfl) rfl rfl rfl ?_
    refine tq_val (fun _ H => ov_move rfl rfl) rfl rfl rfl ?_
    refine tq_val (fun _ H => ov_add rfl rfl rfl (w64 (by omega))) rfl rfl rfl ?_
    refine tq_val (fun _ H => ov_mul rfl rfl rfl (w64 (by omega))) rfl rfl rfl ?_
    refine tq_val (fun _ H => ov_shr rfl rfl rfl (by omega) (shr6 to_ (by omega) (by omega))) rfl rfl rfl ?_
    refine tq_val (fun _ H => ov_eql rfl rfl rfl) rfl rfl rfl ?_
    refine tq_val (fun _ H => ov_assign rfl rfl) rfl rfl rfl ?_
    refine tq_nil ?_
    intro w6 H
    refine hK13 _ _ (TrC.keep [9, 8, 7, 29, 28, 27, 6, 5, 4, 3, 2] ?_)
    show TrC _ _ _ _ [(9, _), (8, _), (7, _), (29, _), (28, _), (27, _), (6, _), (5, _), (4, _), (3, _), (2, _)] _ _
    refine tr_seq (fun K14 hK14 => ?_)
    -- region 8: wheel.go:156
    refine tr_region ?_
    refine tr_val (ov_move rfl rfl) rfl rfl rfl ?_
    refine tr_nil (hK14 _ _ (TrC.keep [43, 8, 7, 29, 28, 27, 6, 5, 4, 3, 2] ?_))
    show TrC _ _ _ _ [(43, _), (8, _), (7, _), (29, _), (28, _), (27, _), (6, _), (5, _), (4, _), (3, _), (2, _)] _ _
    refine tr_cond rfl (fun c43 => ?_) (fun c43 => ?_)
    · skip
      refine tr_seq (fun K15 hK15 => ?_)
      refine tr_seq (fun K16 hK16 => ?_)
      -- region 9: wheel.go:158
      refine tr_region ?_
      refine tr_val (ov_move rfl rfl) rfl rfl rfl ?_
      refine tr_val (ov_move rfl rfl) rfl rfl rfl ?_
      refine tr_val (ov_mul rfl rfl rfl (w64 (by omega))) rfl rfl rfl ?_
      refine tr_val (ov_shr rfl rfl rfl (by omega) (shr6 was (by omega) (by omega))) rfl rfl rfl ?_
      refine tr_val (ov_and rfl rfl rfl (andI63 _)) rfl rfl rfl ?_
      refine tr_val (ov_assign rfl rfl) rfl rfl rfl ?_
      refine tr_nil (hK16 _ _ (TrC.keep [10, 43, 8, 7, 29, 28, 27, 6, 5, 4, 3, 2] ?_))
      show TrC _ _ _ _ [(10, _), (43, _), (8, _), (7, _), (29, _), (28, _), (27, _), (6, _), (5, _), (4, _), (3, _), (2, _)] _ _
      refine tr_block ?_
      have hsle := same_le hwt hi0 (by omega) c43
      refine tr_loop_ (X := Int × List (List RThing) × List Thing × Option Addr × Nat × List Res) [43, 8, 7, 29, 28, 27, 6, 5, 4, 3, 2] (fun ⟨k, Rs3, Lt3, A3, c3, L3⟩ => [(10, .int .i64 k)]) (fun ⟨k, Rs3, Lt3, A3, c3, L3⟩ w' => shI was i % 64 ≤ k ∧ k ≤ shI to_ i % 64 + 1 ∧ TSame was to_ X i k Rs3 Lt3 ∧ WheelD 65 117 161 30 d ds f to_ Rs3 Fv L3 ∧ SH w (pack (wheelL 65 117 d f m was ds E ck Ls)).foot [blk b3 32 [.slice A3 (Lt3).length c3], vec A3 c3 30 3 encThing (Lt3), blk b2 2 [.int .i64 to_], blk b1 24 [.pointer (some ⟨d, 0, none⟩)], pack L3] w') (fun ⟨k, Rs3, Lt3, A3, c3, L3⟩ => (shI to_ i % 64 + 1 - k).toNat) (⟨shI was i % 64, Rs2, Lt, A2, c2, L2⟩) (Sub.cons rfl (Sub.cons rfl (Sub.cons rfl (Sub.cons rfl (Sub.cons rfl (Sub.cons rfl (Sub.cons rfl (Sub.cons rfl (Sub.cons rfl (Sub.cons rfl (Sub.cons rfl (Sub.cons rfl Sub.nil)))))))))))) (⟨by omega, by omega, TSame.start hT2 hi0 (by omega) ⟨hn0.1, hwt⟩ hns, hM2, H⟩) ?_
      rintro ⟨k, Rs3, Lt3, A3, c3, L3⟩ w7 ⟨hk0, hk1, hT3, hM3, H⟩ K17 hK17
      have hsz := fun j (j0 : 0 ≤ j) (j1 : j < 4) => hT3.few hW.ids hW.few j0 j1
      have hszl := hT3.few2 hW.few
      show TrC _ _ _ _ [(10, _), (43, _), (8, _), (7, _), (29, _), (28, _), (27, _), (6, _), (5, _), (4, _), (3, _), (2, _)] _ _
      refine tr_seq (fun K18 hK18 => ?_)
      refine tr_seq (fun K19 hK19 => ?_)
      -- region 10: wheel.go:158
      refine tr_region ?_
      refine tr_val (ov_move rfl rfl) rfl rfl rfl ?_
      refine tr_val (ov_load_blk H.get2 rfl (Try.isAgg2 _) rfl rfl rfl) rfl rfl rfl ?_
      refine tr_val (ov_move rfl rfl) rfl rfl rfl ?_
      refine tr_val (ov_mul rfl rfl rfl (w64 (by omega))) rfl rfl rfl ?_
      refine tr_val (ov_shr rfl rfl rfl (by omega) (shr6 to_ (by omega) (by omega))) rfl rfl rfl ?_
      refine tr_val (ov_and rfl rfl rfl (andI63 _)) rfl rfl rfl ?_
      refine tr_val (ov_leq rfl rfl rfl) rfl rfl rfl ?_
      refine tr_nil (hK19 _ _ (TrC.keep [55, 10, 43, 8, 7, 29, 28, 27, 6, 5, 4, 3, 2] ?_))
      show TrC _ _ _ _ [(55, _), (10, _), (43, _), (8, _), (7, _), (29, _), (28, _), (27, _), (6, _), (5, _), (4, _), (3, _), (2, _)] _ _
      refine tr_cond rfl (fun c55 => ?_) (fun c55 => ?_)
      · skip
        refine tr_skip (hK18 _ _ (TrC.keep [55, 10, 43, 8, 7, 29, 28, 27, 6, 5, 4, 3, 2] ?_))
        show TrC _ _ _ _ [(55, _), (10, _), (43, _), (8, _), (7, _), (29, _), (28, _), (27, _), (6, _), (5, _), (4, _), (3, _), (2, _)] _ _
        refine tr_seq (fun K20 hK20 => ?_)
        refine tr_block ?_
        -- region 12: wheel.go:159
        have hM3' := hM3
        obtain ⟨m3, E3, ck3, Ls3, hG3, hE3, rfl⟩ := hM3
        have hds := hG3.1
        have H := SH.unpackL [_, _, _, _] H
        change SH w _ (blk b3 32 [.slice A3 (Lt3).length c3] :: vec A3 c3 30 3 encThing Lt3 :: blk b2 2 [.int .i64 to_] :: blk b1 24 [.pointer (some ⟨d, 0, none⟩)] :: blk d 65 (cellsW to_ ds f) :: blk f 117 [.map (some m3)] :: mapT m3 E3 ck3 :: Ls3.map pack) _ at H
        refine tr_region ?_
        refine tr_val (ov_move rfl rfl) rfl rfl rfl ?_
        refine tr_val (ov_move rfl rfl) rfl rfl rfl ?_
        refine tr_val (ov_move rfl rfl) rfl rfl rfl ?_
        refine tr_call (ringTake_c (gt ds i) (gt Rs3 i) (gt Ls3 i) _ (hG3.2.2 i hi0 (by omega)) (SH.atGet [_, _, _, _, _, _, _] H hi0 (by rw [hG3.2.1]; omega)) k (by have := hsz i hi0 (by omega); omega)) rfl rfl rfl Try.call96 rfl rfl rfl ?_
        rintro _ w8 ⟨Ax, cx, rfl, L4, hL4, HC⟩
        have H := SH.atCall (f := pack) [_, _, _, _, _, _, _] L4 [vec Ax cx 30 3 encThing (sortT (slotL (gt Rs3 i) k))] H hi0 (by rw [hG3.2.1]; omega) HC
        have hG4 := hG3.set hi0 (by omega) hT3.len hL4
        have H := SH.packL [_, _, _, _, _] H
        have hM4 : WheelD 65 117 161 30 d ds f to_ (Rs3.set i.toNat (leftR (gt Rs3 i) k)) Fv (wheelL 65 117 d f m3 to_ ds E3 ck3 (Ls3.set i.toNat L4)) := ⟨m3, E3, ck3, _, hG4, hE3, rfl⟩
        change SH w _ [vec Ax cx 30 3 encThing (sortT (slotL (gt Rs3 i) k)), blk b3 32 [.slice A3 (Lt3).length c3], vec A3 c3 30 3 encThing (Lt3), blk b2 2 [.int .i64 to_], blk b1 24 [.pointer (some ⟨d, 0, none⟩)], pack (wheelL 65 117 d f m3 to_ ds E3 ck3 (Ls3.set i.toNat L4))] _ at H
        have H := H.upd0 (upd_rdr_of_vec H.get0 lenThing (by decide))
        have hl4 : (Rs3.set i.toNat (leftR (gt Rs3 i) k)).length = 4 := by simpa using hT3.len
        have hg4 : ∀ j : Int, 0 ≤ j → j < 4 → gt (Rs3.set i.toNat (leftR (gt Rs3 i) k)) j = if j = i then leftR (gt Rs3 i) k else gt Rs3 j := fun j j0 j1 => gt_setI j0 (by rw [hT3.len]; omega) hi0
        have hsk := sortT_len (slotL (gt Rs3 i) k)
        have hsk2 := slotL_le (gt Rs3 i) k
        have hsk3 := hsz i hi0 (by omega)
        have hidl : Ids (sortT (slotL (gt Rs3 i) k)) := (hW.ids.sub List.filter_sublist).perm (hT3.slot hW.ids hi0 (by omega)).symm
        have hbl := hT3.below hW.ids hi0 (by omega) hwt c43 c55
        have hfr4 : ∀ t, t ∈ (sortT (slotL (gt Rs3 i) k)) → to_ < t.due → findT t.id Fv = none ∧ ∀ j : Int, 0 ≤ j → j < 4 → findR t.id (gt (Rs3.set i.toNat (leftR (gt Rs3 i) k)) j) = none := fun t ht hd => ⟨findT_none.mpr fun u hu q => by
          have hm := List.mem_filter.mp ((hT3.slot hW.ids hi0 (by omega)).mem_iff.mp ht)
          have hfu := (hW.far u).mp hu
          have := hW.ids.uniq hm.1 hfu.1 q
          subst this
          have hp2 : placeV was t.due = (i, k) := of_decide_eq_true hm.2
          rw [hp2] at hfu
          have := hfu.2
          simp at this
          omega, hT3.fresh hW.ids hi0 (by omega) hns hl4 hg4 t ht⟩
        refine tr_callc (downC Ax cx (sortT (slotL (gt Rs3 i) k)) b3 b2 b1 A3 c3 Lt3 to_ d ds f _ Fv _ _ hM4 (SH.own_ [_, _, _, _, _, _] (rs := []) H) hl4 hidl hfr4 (by omega) (fun j j0 j1 => by rw [hg4 j j0 j1]; have := hsz j j0 j1; have := leftR_le (gt Rs3 i) k; split <;> omega) (by omega)) rfl rfl rfl Try.call95 rfl rfl rfl ?_
        rintro _ w9 ⟨A5, c5, Rs5, L5, hl5, hg5, hM5, HC⟩
        have H := SH.callP (pre := [_, _, _, _, _, _]) (rs := []) H HC
        have hwf5 : ∀ j : Int, 0 ≤ j → j < 4 → Wf (gt Rs5 j) := fun j j0 j1 => by obtain ⟨_, _, _, _, hG5, _⟩ := hM5; exact (hG5.2.2 j j0 j1).wf
        refine tr_nil (hK20 _ _ (TrC.keep [55, 10, 43, 8, 7, 29, 28, 27, 6, 5, 4, 3, 2] ?_))
        show TrC _ _ _ _ [(55, _), (10, _), (43, _), (8, _), (7, _), (29, _), (28, _), (27, _), (6, _), (5, _), (4, _), (3, _), (2, _)] _ _
        -- region 11: wheel.go:158
        refine tr_region ?_
        refine tr_val (ov_move rfl rfl) rfl rfl rfl ?_
        refine tr_val (ov_add rfl rfl rfl (w64 (by omega))) rfl rfl rfl ?_
        refine tr_val (ov_assign rfl rfl) rfl rfl rfl ?_
        have hnf := hT3.noFar hW.ids hi0 (by omega) hwt c43 c55
        rw [hnf, List.append_nil] at hM5
        exact tr_nil (hK17 (⟨k + 1, Rs5, (Lt3 ++ dnLate to_ (sortT (slotL (gt Rs3 i) k))), A5, c5, L5⟩) _ _ (⟨by omega, by omega, hT3.step hW.ids hi0 (by omega) hwt c43 c55 hl5 hwf5 (fun j j0 j1 => by rw [hg5 j j0 j1, hg4 j j0 j1]), hM5, H⟩) (by (dsimp only; omega)) (Sub.cons rfl (Sub.cons rfl (Sub.cons rfl (Sub.cons rfl (Sub.cons rfl (Sub.cons rfl (Sub.cons rfl (Sub.cons rfl (Sub.cons rfl (Sub.cons rfl (Sub.cons rfl (Sub.cons rfl Sub.nil)))))))))))))
      · skip
        refine tr_exit (hK15 _ _ (TrC.keep [55, 10, 43, 8, 7, 29, 28, 27, 6, 5, 4, 3, 2] ?_))
        show TrC _ _ _ _ [(55, _), (10, _), (43, _), (8, _), (7, _), (29, _), (28, _), (27, _), (6, _), (5, _), (4, _), (3, _), (2, _)] _ _
        refine tr_seq (fun K21 hK21 => ?_)
        -- region 13: wheel.go:161
        refine tr_region ?_
        refine tr_val (ov_load_blk H.get0 rfl (Try.isAgg32 _) rfl rfl rfl) rfl rfl rfl ?_
        (refine tr_store H.get0 rfl (Try.sizeOf32 _) rfl rfl rfl rfl rfl rfl rfl ?_; intro w10 U; have H := H.upd0 U; clear U)
        try simp only [List.set_cons_zero, List.set_cons_succ, Nat.zero_add] at H
        refine tr_nil (hK21 _ _ (TrC.keep [55, 10, 43, 8, 7, 29, 28, 27, 6, 5, 4, 3, 2] ?_))
        show TrC _ _ _ _ [(55, _), (10, _), (43, _), (8, _), (7, _), (29, _), (28, _), (27, _), (6, _), (5, _), (4, _), (3, _), (2, _)] _ _
        refine tr_ret (post_ret1 (.inr rfl) rfl (by exact ⟨_, rfl, res_blk1 H.get0 (Try.isAgg32 _) rfl rfl⟩) ?_)
        have hke : k = shI to_ i % 64 + 1 := by omega
        obtain ⟨q1, q2⟩ := hT3.stop hW.far hW.keys hW.ids hW.few hW.dues hlt hi0 (by omega) ⟨hn0.1, hwt, hto⟩ hns c43 hke
        exact ⟨A3, c3, Lt3, rfl, q2, L3, ⟨Rs3, Fv, q1, hM3.any⟩, H.drop0.drop1.drop1⟩
    · skip
      refine tr_skip (hK12 _ _ (TrC.keep [43, 8, 7, 29, 28, 27, 6, 5, 4, 3, 2] ?_))
      show TrC _ _ _ _ [(43, _), (8, _), (7, _), (29, _), (28, _), (27, _), (6, _), (5, _), (4, _), (3, _), (2, _)] _ _
      refine tr_seq (fun K22 hK22 => ?_)
      -- region 14: wheel.go:163
      refine tr_region ?_
      refine tr_val (ov_move rfl rfl) rfl rfl rfl ?_
      refine tr_nil (hK22 _ _ (TrC.keep [64, 43, 8, 7, 29, 28, 27, 6, 5, 4, 3, 2] ?_))
      show TrC _ _ _ _ [(64, _), (43, _), (8, _), (7, _), (29, _), (28, _), (27, _), (6, _), (5, _), (4, _), (3, _), (2, _)] _ _
      refine tr_block ?_
      refine tr_loop_ (X := Int × List (List RThing) × List Thing × Option Addr × Nat × List Res) [43, 8, 7, 29, 28, 27, 6, 5, 4, 3, 2] (fun ⟨k, Rs3, Lt3, A3, c3, L3⟩ => [(64, .int .i64 k)]) (fun ⟨k, Rs3, Lt3, A3, c3, L3⟩ w' => 0 ≤ k ∧ k ≤ 64 ∧ TFull was X i k Rs3 Lt3 ∧ WheelD 65 117 161 30 d ds f to_ Rs3 Fv L3 ∧ SH w (pack (wheelL 65 117 d f m was ds E ck Ls)).foot [blk b3 32 [.slice A3 (Lt3).length c3], vec A3 c3 30 3 encThing (Lt3), blk b2 2 [.int .i64 to_], blk b1 24 [.pointer (some ⟨d, 0, none⟩)], pack L3] w') (fun ⟨k, Rs3, Lt3, A3, c3, L3⟩ => (64 - k).toNat) (⟨0, Rs2, Lt, A2, c2, L2⟩) (Sub.cons rfl (Sub.cons rfl (Sub.cons rfl (Sub.cons rfl (Sub.cons rfl (Sub.cons rfl (Sub.cons rfl (Sub.cons rfl (Sub.cons rfl (Sub.cons rfl (Sub.cons rfl (Sub.cons rfl Sub.nil)))))))))))) (⟨by omega, by omega, hT2, hM2, H⟩) ?_
      rintro ⟨k, Rs3, Lt3, A3, c3, L3⟩ w11 ⟨hk0, hk1, hT3, hM3, H⟩ K23 hK23
      have hsz := fun j (j0 : 0 ≤ j) (j1 : j < 4) => hT3.few hW.ids hW.few j0 j1
      have hszl := hT3.few2 hW.few
      show TrC _ _ _ _ [(64, _), (43, _), (8, _), (7, _), (29, _), (28, _), (27, _), (6, _), (5, _), (4, _), (3, _), (2, _)] _ _
      refine tr_seq (fun K24 hK24 => ?_)
      -- region 15: wheel.go:163
      refine tr_region ?_
      refine tr_val (ov_lss rfl rfl rfl) rfl rfl rfl ?_
      refine tr_nil (hK24 _ _ (TrC.keep [65, 64, 43, 8, 7, 29, 28, 27, 6, 5, 4, 3, 2] ?_))
      show TrC _ _ _ _ [(65, _), (64, _), (43, _), (8, _), (7, _), (29, _), (28, _), (27, _), (6, _), (5, _), (4, _), (3, _), (2, _)] _ _
      refine tr_seq (fun K25 hK25 => ?_)
      refine tr_cond rfl (fun c65 => ?_) (fun c65 => ?_)
      · skip
        refine tr_skip (hK25 _ _ (TrC.keep [65, 64, 43, 8, 7, 29, 28, 27, 6, 5, 4, 3, 2] ?_))
        show TrC _ _ _ _ [(65, _), (64, _), (43, _), (8, _), (7, _), (29, _), (28, _), (27, _), (6, _), (5, _), (4, _), (3, _), (2, _)] _ _
        refine tr_seq (fun K26 hK26 => ?_)
        refine tr_block ?_
        refine tr_seq (fun K27 hK27 => ?_)
        -- region 16: wheel.go:163
        refine tr_region ?_
        refine tr_val (ov_move rfl rfl) rfl rfl rfl ?_
        refine tr_val (ov_assign rfl rfl) rfl rfl rfl ?_
        refine tr_nil (hK27 _ _ (TrC.keep [11, 65, 64, 43, 8, 7, 29, 28, 27, 6, 5, 4, 3, 2] ?_))
        show TrC _ _ _ _ [(11, _), (65, _), (64, _), (43, _), (8, _), (7, _), (29, _), (28, _), (27, _), (6, _), (5, _), (4, _), (3, _), (2, _)] _ _
        -- region 17: wheel.go:164
        have hM3' := hM3
        obtain ⟨m3, E3, ck3, Ls3, hG3, hE3, rfl⟩ := hM3
        have hds := hG3.1
        have H := SH.unpackL [_, _, _, _] H
        change SH w _ (blk b3 32 [.slice A3 (Lt3).length c3] :: vec A3 c3 30 3 encThing Lt3 :: blk b2 2 [.int .i64 to_] :: blk b1 24 [.pointer (some ⟨d, 0, none⟩)] :: blk d 65 (cellsW to_ ds f) :: blk f 117 [.map (some m3)] :: mapT m3 E3 ck3 :: Ls3.map pack) _ at H
        refine tr_region ?_
        refine tr_val (ov_move rfl rfl) rfl rfl rfl ?_
        refine tr_val (ov_move rfl rfl) rfl rfl rfl ?_
        refine tr_val (ov_move rfl rfl) rfl rfl rfl ?_
        refine tr_call (ringTake_c (gt ds i) (gt Rs3 i) (gt Ls3 i) _ (hG3.2.2 i hi0 (by omega)) (SH.atGet [_, _, _, _, _, _, _] H hi0 (by rw [hG3.2.1]; omega)) k (by have := hsz i hi0 (by omega); omega)) rfl rfl rfl Try.call96 rfl rfl rfl ?_
        rintro _ w12 ⟨Ax, cx, rfl, L4, hL4, HC⟩
        have H := SH.atCall (f := pack) [_, _, _, _, _, _, _] L4 [vec Ax cx 30 3 encThing (sortT (slotL (gt Rs3 i) k))] H hi0 (by rw [hG3.2.1]; omega) HC
        have hG4 := hG3.set hi0 (by omega) hT3.len hL4
        have H := SH.packL [_, _, _, _, _] H
        have hM4 : WheelD 65 117 161 30 d ds f to_ (Rs3.set i.toNat (leftR (gt Rs3 i) k)) Fv (wheelL 65 117 d f m3 to_ ds E3 ck3 (Ls3.set i.toNat L4)) := ⟨m3, E3, ck3, _, hG4, hE3, rfl⟩
        change SH w _ [vec Ax cx 30 3 encThing (sortT (slotL (gt Rs3 i) k)), blk b3 32 [.slice A3 (Lt3).length c3], vec A3 c3 30 3 encThing (Lt3), blk b2 2 [.int .i64 to_], blk b1 24 [.pointer (some ⟨d, 0, none⟩)], pack (wheelL 65 117 d f m3 to_ ds E3 ck3 (Ls3.set i.toNat L4))] _ at H
        have H := H.upd0 (upd_rdr_of_vec H.get0 lenThing (by decide))
        have hl4 : (Rs3.set i.toNat (leftR (gt Rs3 i) k)).length = 4 := by simpa using hT3.len
        have hg4 : ∀ j : Int, 0 ≤ j → j < 4 → gt (Rs3.set i.toNat (leftR (gt Rs3 i) k)) j = if j = i then leftR (gt Rs3 i) k else gt Rs3 j := fun j j0 j1 => gt_setI j0 (by rw [hT3.len]; omega) hi0
        have hsk := sortT_len (slotL (gt Rs3 i) k)
        have hsk2 := slotL_le (gt Rs3 i) k
        have hsk3 := hsz i hi0 (by omega)
        have hidl : Ids (sortT (slotL (gt Rs3 i) k)) := (hW.ids.sub List.filter_sublist).perm (hT3.slot hW.ids hi0 (by omega)).symm
        have hal := hT3.all_late (to_ := to_) hW.ids hi0 (by omega) hwt c43
        have hfr4 : ∀ t, t ∈ (sortT (slotL (gt Rs3 i) k)) → to_ < t.due → findT t.id Fv = none ∧ ∀ j : Int, 0 ≤ j → j < 4 → findR t.id (gt (Rs3.set i.toNat (leftR (gt Rs3 i) k)) j) = none := fun t ht hd => absurd (hal t ht) (by omega)
        obtain ⟨a1, a2, a3⟩ := dn_all hal
        refine tr_callc (downC Ax cx (sortT (slotL (gt Rs3 i) k)) b3 b2 b1 A3 c3 Lt3 to_ d ds f _ Fv _ _ hM4 (SH.own_ [_, _, _, _, _, _] (rs := []) H) hl4 hidl hfr4 (by omega) (fun j j0 j1 => by rw [hg4 j j0 j1]; have := hsz j j0 j1; have := leftR_le (gt Rs3 i) k; split <;> omega) (by omega)) rfl rfl rfl Try.call95 rfl rfl rfl ?_
        rintro _ w13 ⟨A5, c5, Rs5, L5, hl5, hg5, hM5, HC⟩
        have H := SH.callP (pre := [_, _, _, _, _, _]) (rs := []) H HC
        have hwf5 : ∀ j : Int, 0 ≤ j → j < 4 → Wf (gt Rs5 j) := fun j j0 j1 => by obtain ⟨_, _, _, _, hG5, _⟩ := hM5; exact (hG5.2.2 j j0 j1).wf
        refine tr_nil (hK26 _ _ (TrC.keep [65, 64, 43, 8, 7, 29, 28, 27, 6, 5, 4, 3, 2] ?_))
        show TrC _ _ _ _ [(65, _), (64, _), (43, _), (8, _), (7, _), (29, _), (28, _), (27, _), (6, _), (5, _), (4, _), (3, _), (2, _)] _ _
        -- region 18: wheel.go:163
        refine tr_region ?_
        refine tr_val (ov_add rfl rfl rfl (w64 (by omega))) rfl rfl rfl ?_
        refine tr_val (ov_move rfl rfl) rfl rfl rfl ?_
        rw [a2, List.append_nil] at hM5
        rw [a1] at H
        exact tr_nil (hK23 (⟨k + 1, Rs5, (Lt3 ++ (sortT (slotL (gt Rs3 i) k))), A5, c5, L5⟩) _ _ (⟨by omega, by omega, hT3.step hW.ids hi0 (by omega) hk0 hl5 (fun j j0 j1 => by rw [hg5 j j0 j1, a3 j, List.append_nil, hg4 j j0 j1]), hM5, H⟩) (by (dsimp only; omega)) (Sub.cons rfl (Sub.cons rfl (Sub.cons rfl (Sub.cons rfl (Sub.cons rfl (Sub.cons rfl (Sub.cons rfl (Sub.cons rfl (Sub.cons rfl (Sub.cons rfl (Sub.cons rfl (Sub.cons rfl Sub.nil)))))))))))))
      · skip
        refine tr_exit (hK10 _ _ (TrC.keep [65, 64, 43, 8, 7, 29, 28, 27, 6, 5, 4, 3, 2] ?_))
        show TrC _ _ _ _ [(65, _), (64, _), (43, _), (8, _), (7, _), (29, _), (28, _), (27, _), (6, _), (5, _), (4, _), (3, _), (2, _)] _ _
        -- region 19: wheel.go:155
        refine tr_region ?_
        refine tr_val (ov_add rfl rfl rfl (w64 (by omega))) rfl rfl rfl ?_
        refine tr_val (ov_move rfl rfl) rfl rfl rfl ?_
        skip
        exact tr_nil (hK7 (⟨i + 1, Rs3, Lt3, A3, c3, L3⟩) _ _ (⟨by omega, by omega, fun j h0 h1 => by by_cases e : j = i; (subst e; exact c43); exact hns j h0 (by omega), hT3.next hi0 (by omega), hM3, H⟩) (by (dsimp only; omega)) (Sub.cons rfl (Sub.cons rfl (Sub.cons rfl (Sub.cons rfl (Sub.cons rfl (Sub.cons rfl (Sub.cons rfl Sub.nil))))))))
  · skip
    refine tr_exit (hK5 _ _ (TrC.keep [29, 28, 27, 6, 5, 4, 3, 2] ?_))
    show TrC _ _ _ _ [(29, _), (28, _), (27, _), (6, _), (5, _), (4, _), (3, _), (2, _)] _ _
    refine tr_seq (fun K28 hK28 => ?_)
    -- region 20: wheel.go:167
    have hi : i = 4 := by omega
    subst hi
    obtain ⟨m4, E4, ck4, Ls4, hG4, hE4, rfl⟩ := hM2
    have hds := hG4.1
    have H := SH.unpackL [_, _, _, _] H
    change SH w _ (blk b3 32 [.slice A2 (Lt).length c2] :: vec A2 c2 30 3 encThing Lt :: blk b2 2 [.int .i64 to_] :: blk b1 24 [.pointer (some ⟨d, 0, none⟩)] :: blk d 65 (cellsW to_ ds f) :: blk f 117 [.map (some m4)] :: mapT m4 E4 ck4 :: Ls4.map pack) _ at H
    refine tr_region ?_
    refine tr_val (ov_load_blk H.get3 rfl (Try.isAgg24 _) rfl rfl rfl) rfl rfl rfl ?_
    refine tr_val (ov_nilCheck rfl rfl) rfl rfl rfl ?_
    refine tr_val (ov_fieldAddr rfl Try.underlying65 rfl (Try.sizeOf63 _) (by decide) rfl) rfl rfl rfl ?_
    refine tr_val (ov_load_blk H.get4 rfl (Try.isAgg63 _) rfl rfl (cellsW_far hds)) rfl rfl rfl ?_
    refine tr_val (ov_nilCheck rfl rfl) rfl rfl rfl ?_
    refine tr_val (ov_fieldAddr rfl Try.underlying117 rfl (Try.sizeOf71 _) (by decide) rfl) rfl rfl rfl ?_
    refine tr_val (ov_load_blk H.get5 rfl (Try.isAgg71 _) rfl rfl rfl) rfl rfl rfl ?_
    refine tr_val (ov_assign rfl rfl) rfl rfl rfl ?_
    refine tr_nil (hK28 _ _ (TrC.keep [12, 29, 28, 27, 6, 5, 4, 3, 2] ?_))
    show TrC _ _ _ _ [(12, _), (29, _), (28, _), (27, _), (6, _), (5, _), (4, _), (3, _), (2, _)] _ _
    refine tr_seq (fun K29 hK29 => ?_)
    -- region 21: wheel.go:168
    refine tr_region ?_
    refine tr_val (ov_load_blk H.get3 rfl (Try.isAgg24 _) rfl rfl rfl) rfl rfl rfl ?_
    refine tr_val (ov_nilCheck rfl rfl) rfl rfl rfl ?_
    refine tr_val (ov_fieldAddr rfl Try.underlying65 rfl (Try.sizeOf63 _) (by decide) rfl) rfl rfl rfl ?_
    refine tr_val (ov_load_blk H.get4 rfl (Try.isAgg63 _) rfl rfl (cellsW_far hds)) rfl rfl rfl ?_
    refine tr_makeMap .u64 encTh H rfl rfl rfl rfl ?_
    intro m5 w25 H
    refine tr_val (ov_nilCheck rfl rfl) rfl rfl rfl ?_
    refine tr_val (ov_fieldAddr rfl Try.underlying117 rfl (Try.sizeOf71 _) (by decide) rfl) rfl rfl rfl ?_
    refine tr_store (b := f) (j := 0) H.get6 rfl (Try.sizeOf71 _) rfl rfl rfl rfl rfl rfl rfl ?_
    intro w27 U
    have H := H.upd6 (r := blk f 117 [.map (some m5)]) U; clear U
    have H := H.top7
    have H := H.perm (List.Perm.cons _ (List.perm_middle (l₁ := [_, _, _, _, _, _])).symm)
    have H := SH.packL [_, _, _, _, _] H
    have hM5 : WheelD 65 117 161 30 d ds f to_ Rs2 [] (wheelL 65 117 d f m5 to_ ds [] 0 Ls4) := ⟨m5, [], 0, Ls4, hG4, FarE.nil, rfl⟩
    change SH w _ [mapT m4 E4 ck4, blk b3 32 [.slice A2 (Lt).length c2], vec A2 c2 30 3 encThing (Lt), blk b2 2 [.int .i64 to_], blk b1 24 [.pointer (some ⟨d, 0, none⟩)], pack (wheelL 65 117 d f m5 to_ ds [] 0 Ls4)] _ at H
    have hem := fun j (j0 : 0 ≤ j) (j1 : j < 4) => hT2.empty j0 j1
    refine tr_nil (hK29 _ _ (TrC.keep [12, 29, 28, 27, 6, 5, 4, 3, 2] ?_))
    show TrC _ _ _ _ [(12, _), (29, _), (28, _), (27, _), (6, _), (5, _), (4, _), (3, _), (2, _)] _ _
    refine tr_seq (fun K30 hK30 => ?_)
    refine tr_seq (fun K31 hK31 => ?_)
    -- region 22: wheel.go:169
    refine tr_region ?_
    refine tr_val (ov_move rfl rfl) rfl rfl rfl ?_
    refine tr_range H H.get0 rfl Try.underlying71 rfl rfl rfl rfl ?_
    intro r w30 H
    refine tr_nil (hK31 _ _ (TrC.keep [89, 29, 28, 27, 6, 5, 4, 3, 2] ?_))
    show TrC _ _ _ _ [(89, _), (29, _), (28, _), (27, _), (6, _), (5, _), (4, _), (3, _), (2, _)] _ _
    refine tr_block ?_
    refine tr_loop_ (X := List (Int × Thing × Nat) × List (List RThing) × Option Addr × Nat × List Res) [89, 29, 28, 27, 6, 5, 4, 3, 2] (fun ⟨V, Rs3, A3, c3, L3⟩ => []) (fun ⟨V, Rs3, A3, c3, L3⟩ w' => Vis E4 V ∧ Rs3.length = 4 ∧ (∀ j : Int, 0 ≤ j → j < 4 → gt Rs3 j = dnRing to_ (V.map (·.2.1)) j) ∧ WheelD 65 117 161 30 d ds f to_ Rs3 (dnFar to_ (V.map (·.2.1))) L3 ∧ SH w (pack (wheelL 65 117 d f m was ds E ck Ls)).foot [iterR r m4 ck4 (seenOf V) ck4, mapT m4 E4 ck4, blk b3 32 [.slice A3 (Lt ++ dnLate to_ (V.map (·.2.1))).length c3], vec A3 c3 30 3 encThing (Lt ++ dnLate to_ (V.map (·.2.1))), blk b2 2 [.int .i64 to_], blk b1 24 [.pointer (some ⟨d, 0, none⟩)], pack L3] w') (fun ⟨V, Rs3, A3, c3, L3⟩ => (E4.length - V.length)) (⟨[], Rs2, A2, c2, wheelL 65 117 d f m5 to_ ds [] 0 Ls4⟩) (Sub.cons rfl (Sub.cons rfl (Sub.cons rfl (Sub.cons rfl (Sub.cons rfl (Sub.cons rfl (Sub.cons rfl (Sub.cons rfl (Sub.cons rfl Sub.nil))))))))) (⟨Vis.nil, hT2.len, fun j j0 j1 => hem j j0 j1, hM5, by show SH _ _ [_, _, blk b3 _ [.slice _ (Lt ++ []).length _], vec _ _ _ _ _ (Lt ++ []), _, _, _] _; rw [List.append_nil]; exact H⟩) ?_
    rintro ⟨V, Rs3, A3, c3, L3⟩ w14 ⟨hV, hl3, hg3, hM3, H⟩ K32 hK32
    show TrC _ _ _ _ [(89, _), (29, _), (28, _), (27, _), (6, _), (5, _), (4, _), (3, _), (2, _)] _ _
    refine tr_seq (fun K33 hK33 => ?_)
    -- region 23: wheel.go:169
    refine tr_region ?_
    refine tr_next H.get0 H.get1 (fun p hp => hE4.old p hp) (Nat.le_refl _) rfl rfl rfl rfl rfl (fun hall => ?_) (fun e he hns wn U => ?_)
    · skip
      refine tr_val (ov_extract rfl rfl rfl) rfl rfl rfl ?_
      refine tr_nil (hK33 _ _ (TrC.keep [91, 89, 29, 28, 27, 6, 5, 4, 3, 2] ?_))
      show TrC _ _ _ _ [(91, _), (89, _), (29, _), (28, _), (27, _), (6, _), (5, _), (4, _), (3, _), (2, _)] _ _
      refine tr_seq (fun K34 hK34 => ?_)
      refine tr_cond_f rfl rfl ?_
      refine tr_exit (hK30 _ _ (TrC.keep [91, 89, 29, 28, 27, 6, 5, 4, 3, 2] ?_))
      show TrC _ _ _ _ [(91, _), (89, _), (29, _), (28, _), (27, _), (6, _), (5, _), (4, _), (3, _), (2, _)] _ _
      refine tr_seq (fun K35 hK35 => ?_)
      -- region 26: wheel.go:172
      refine tr_region ?_
      refine tr_val (ov_load_blk H.get2 rfl (Try.isAgg32 _) rfl rfl rfl) rfl rfl rfl ?_
      (refine tr_store H.get2 rfl (Try.sizeOf32 _) rfl rfl rfl rfl rfl rfl rfl ?_; intro w15 U; have H := H.upd2 U; clear U)
      try simp only [List.set_cons_zero, List.set_cons_succ, Nat.zero_add] at H
      refine tr_nil (hK35 _ _ (TrC.keep [91, 89, 29, 28, 27, 6, 5, 4, 3, 2] ?_))
      show TrC _ _ _ _ [(91, _), (89, _), (29, _), (28, _), (27, _), (6, _), (5, _), (4, _), (3, _), (2, _)] _ _
      refine tr_ret (post_ret1 (.inr rfl) rfl (by exact ⟨_, rfl, res_blk1 H.get2 (Try.isAgg32 _) rfl rfl⟩) ?_)
      have hwf3 : ∀ j : Int, 0 ≤ j → j < 4 → Wf (gt Rs3 j) := fun j j0 j1 => by obtain ⟨_, _, _, _, hG5, _⟩ := hM3; exact (hG5.2.2 j j0 j1).wf
      obtain ⟨q1, q2⟩ := far_end hT2 (hV.permF hE4 hall) hW.far hW.keys hW.ids hW.few hW.dues ⟨hn0.1, hwt, hto⟩ hns hl3 hwf3 hg3
      exact ⟨A3, c3, _, rfl, q2, L3, ⟨Rs3, _, q1, hM3.any⟩, H.drop0.drop0.drop0.drop1.drop1⟩
    · skip
      have H := H.upd0 U; clear U
      have hvl := hV.lt he hns
      have hvs := hV.snoc he hns
      have hle := hE4.len
      have hsf := hW.smallFar
      have hvf := vis_fresh hV hE4 hW.keys he hns
      have hff := far_fresh (to_ := to_) hvf
      have hf2 := hT2.few2 hW.few
      have hvle := hV.le
      refine tr_val (ov_extract rfl rfl rfl) rfl rfl rfl ?_
      refine tr_nil (hK33 _ _ (TrC.keep [91, 89, 29, 28, 27, 6, 5, 4, 3, 2] ?_))
      show TrC _ _ _ _ [(91, _), (89, _), (29, _), (28, _), (27, _), (6, _), (5, _), (4, _), (3, _), (2, _)] _ _
      refine tr_seq (fun K36 hK36 => ?_)
      refine tr_cond_t rfl rfl ?_
      refine tr_skip (hK36 _ _ (TrC.keep [91, 89, 29, 28, 27, 6, 5, 4, 3, 2] ?_))
      show TrC _ _ _ _ [(91, _), (89, _), (29, _), (28, _), (27, _), (6, _), (5, _), (4, _), (3, _), (2, _)] _ _
      refine tr_block ?_
      refine tr_seq (fun K37 hK37 => ?_)
      -- region 24: wheel.go:169
      refine tr_region ?_
      refine tr_val (ov_entry (seen := seenOf V) H.get0 H.get1 he hE4.born rfl rfl) rfl rfl rfl ?_
      refine tr_val (ov_extract rfl rfl rfl) rfl rfl rfl ?_
      refine tr_alloc H rfl (Try.zeroValue30 _) rfl rfl rfl rfl ?_
      intro b4 w16 hb4 H
      (refine tr_storeW H.get0 rfl (Try.sizeOf30 _) rfl rfl rfl rfl rfl rfl rfl rfl ?_; intro w17 U; have H := H.upd0 U; clear U)
      refine tr_nil (hK37 _ _ (TrC.keep [14, 91, 89, 29, 28, 27, 6, 5, 4, 3, 2] ?_))
      show TrC _ _ _ _ [(14, _), (91, _), (89, _), (29, _), (28, _), (27, _), (6, _), (5, _), (4, _), (3, _), (2, _)] _ _
      -- region 25: wheel.go:170
      rw [seen_push] at H
      refine tr_region ?_
      refine tr_val (ov_move rfl rfl) rfl rfl rfl ?_
      refine tr_val (ov_load_blkN H.get0 rfl (Try.isAgg30 _) (Try.sizeOf30 _) rfl rfl rfl) rfl rfl rfl ?_
      refine tr_buildSlice H rfl Try.underlying32 info30 rfl (fun ρ k => bs1 k rfl) (by decide) (by decide) (fill_Thing_1 _ _ _) rfl rfl rfl ?_
      intro b96 wb960 hb96 H
      have H := H.upd0 (upd_vec_of_blk (L := [e.2.1]) (enc := encThing) (sz := 3) H.get0 rfl lenThing (by simp [maxLen]))
      have H := H.upd0 (upd_rdr_of_vec H.get0 lenThing (by decide))
      have H := H.drop1
      have H := H.perm (List.Perm.cons _ (List.perm_append_comm (l₁ := [_, _])))
      refine tr_callc (downC (some ⟨b96, 0, none⟩) 1 [e.2.1] b3 b2 b1 A3 c3 (Lt ++ dnLate to_ (V.map (·.2.1))) to_ d ds f Rs3 (dnFar to_ (V.map (·.2.1))) L3 _ hM3 (SH.own_ [_, _, _, _, _, _] (rs := [_, _]) H) hl3 (by show ([e.2.1.id] : List Int).Nodup; simp) (fun t ht hd => by simp at ht; subst ht; exact ⟨hff.1, fun j j0 j1 => by rw [hg3 j j0 j1]; exact hff.2 j⟩) (by simp) (fun j j0 j1 => by rw [hg3 j j0 j1]; have := dnRing_le (to_ := to_) (l := (V.map (·.2.1))) (j := j); rw [List.length_map] at this; omega) (by have := dnLate_le (to_ := to_) (l := (V.map (·.2.1))); rw [List.length_map] at this; rw [List.length_append]; omega)) rfl rfl rfl Try.call95 rfl rfl rfl ?_
      rintro _ w18 ⟨A5, c5, Rs5, L5, hl5, hg5, hM5', HC⟩
      have H := SH.callP (pre := [_, _, _, _, _, _]) (rs := [_, _]) H HC
      have H := H.perm (List.perm_append_comm (l₂ := [_, _]))
      have hda := dn_app (to_ := to_) (V.map (·.2.1)) [e.2.1]
      rw [vals_snoc] at hda
      skip
      exact tr_nil (hK32 (⟨(V ++ [e]), Rs5, A5, c5, L5⟩) _ _ (⟨hvs, hl5, fun j j0 j1 => by rw [hg5 j j0 j1, hg3 j j0 j1, hda.2.2 j], by rw [hda.2.1]; exact hM5', by rw [hda.1, ← List.append_assoc]; exact H⟩) (by simp; omega) (Sub.cons rfl (Sub.cons rfl (Sub.cons rfl (Sub.cons rfl (Sub.cons rfl (Sub.cons rfl (Sub.cons rfl (Sub.cons rfl (Sub.cons rfl Sub.nil))))))))))

/-! (*curfew/wheel.Wheel).Advance -/
set_option maxRecDepth 20000 in
theorem wAdvance_c (d : Nat) (now : Int) (X : List Thing) (L : List Res) (w : World) (hX : WheelX 65 117 161 30 d now X L) (hO : (pack L).holds w) (to_ : Int) : Does Try.prog 16 #[.pointer (some ⟨d, 0, none⟩), .int .i64 to_] w (fun v w' => ∃ A' c', v = .tuple #[.slice A' (advF now to_ X).length c', .int .i64 (advE now to_)] ∧ ∃ L', WheelX 65 117 161 30 d (advN now to_) (advX now to_ X) L' ∧ SH w (pack L).foot [vec A' c' 30 3 encThing (advF now to_ X), pack L'] w') := by
  refine does_enter2 Try.func16 rfl Try.ntmps16 rfl ?_
  have H := SH.own1 hO
  have hbd : ∃ ds f, ∀ w', (pack L).holds w' → (blk d 65 (cellsW now ds f)).holds w' := by obtain ⟨Rs, Fv, hW, f, m, ds, E, ck, Ls, hG, hE, rfl⟩ := hX; exact ⟨ds, f, fun w' h => pack_hold h (by simp [wheelL])⟩
  obtain ⟨ds, f, hbd⟩ := hbd
  obtain ⟨hids, hfew⟩ : Ids X ∧ X.length ≤ 256 := by obtain ⟨Rs, Fv, hW, _⟩ := hX; exact ⟨hW.ids, hW.few⟩
  refine tr_seq (fun K1 hK1 => ?_)
  -- region 0: wheel.go:176
  refine tr_region ?_
  refine tr_val (ov_assign rfl rfl) rfl rfl rfl ?_
  refine tr_val (ov_assign rfl rfl) rfl rfl rfl ?_
  refine tr_nil (hK1 _ _ (TrC.keep [5, 4, 0, 1] ?_))
  show TrC _ _ _ _ [(5, _), (4, _), (0, _), (1, _)] _ _
  refine tr_seq (fun K2 hK2 => ?_)
  refine tr_block ?_
  refine tr_seq (fun K3 hK3 => ?_)
  -- region 1: wheel.go:178
  refine tr_region ?_
  refine tr_val (ov_move rfl rfl) rfl rfl rfl ?_
  refine tr_call ((by obtain ⟨Rs, Fv, _, hM⟩ := hX; exact wnone_c d now Rs Fv L _ hM H.get0 : Does Try.prog 54 #[.pointer (some ⟨d, 0, none⟩)] _ (fun v w' => v = .bool false ∧ SH _ noBlocks [] w'))) rfl rfl rfl Try.call54 rfl rfl rfl ?_
  rintro _ w1 ⟨rfl, HC⟩
  have H := H.call0n HC
  refine tr_val (ov_assign rfl rfl) rfl rfl rfl ?_
  refine tr_nil (hK3 _ _ (TrC.keep [7, 5, 4, 0, 1] ?_))
  show TrC _ _ _ _ [(7, _), (5, _), (4, _), (0, _), (1, _)] _ _
  refine tr_condb rfl (fun c7 => ?_) (fun c7 => ?_)
  · cases c7
  · skip
    refine tr_seq (fun K4 hK4 => ?_)
    -- region 3: wheel.go:180
    refine tr_region ?_
    refine tr_val (ov_move rfl rfl) rfl rfl rfl ?_
    refine tr_call (instW_c to_ _) rfl rfl rfl Try.call52 rfl rfl rfl ?_
    rintro _ w2 ⟨rfl, HC⟩
    have H := H.call0n HC
    refine tr_val (ov_not rfl rfl) rfl rfl rfl ?_
    refine tr_val (ov_assign rfl rfl) rfl rfl rfl ?_
    refine tr_nil (hK4 _ _ (TrC.keep [10, 7, 5, 4, 0, 1] ?_))
    show TrC _ _ _ _ [(10, _), (7, _), (5, _), (4, _), (0, _), (1, _)] _ _
    refine tr_cond rfl (fun c10 => ?_) (fun c10 => ?_)
    · skip
      refine tr_seq (fun K5 hK5 => ?_)
      -- region 4: wheel.go:181
      refine tr_region ?_
      refine tr_val (ov_assign rfl rfl) rfl rfl rfl ?_
      refine tr_val (ov_assign rfl rfl) rfl rfl rfl ?_
      refine tr_nil (hK5 _ _ (TrC.keep [5, 4, 10, 7, 0, 1] ?_))
      show TrC _ _ _ _ [(5, _), (4, _), (10, _), (7, _), (0, _), (1, _)] _ _
      refine tr_ret (post_ret2 (.inr rfl) rfl rfl rfl ?_)
      have he : advE now to_ = 2 := by unfold advE; rw [if_pos (by omega)]
      unfold advF advX advN
      rw [he, if_neg (by decide), if_neg (by decide), if_neg (by decide)]
      exact ⟨none, 0, rfl, L, hX, H.addNil 30 3 encThing⟩
    · skip
      refine tr_seq (fun K6 hK6 => ?_)
      -- region 5: wheel.go:182
      refine tr_region ?_
      refine tr_val (ov_move rfl rfl) rfl rfl rfl ?_
      refine tr_val (ov_move rfl rfl) rfl rfl rfl ?_
      refine tr_val (ov_nilCheck rfl rfl) rfl rfl rfl ?_
      refine tr_val (ov_fieldAddr rfl Try.underlying65 rfl (Try.sizeOf2 _) (by decide) rfl) rfl rfl rfl ?_
      refine tr_val (ov_load_blk (hbd _ H.get0) rfl (Try.isAgg2 _) rfl rfl rfl) rfl rfl rfl ?_
      refine tr_val (ov_lss rfl rfl rfl) rfl rfl rfl ?_
      refine tr_val (ov_assign rfl rfl) rfl rfl rfl ?_
      refine tr_nil (hK6 _ _ (TrC.keep [14, 10, 7, 5, 4, 0, 1] ?_))
      show TrC _ _ _ _ [(14, _), (10, _), (7, _), (5, _), (4, _), (0, _), (1, _)] _ _
      refine tr_cond rfl (fun c14 => ?_) (fun c14 => ?_)
      · skip
        refine tr_seq (fun K7 hK7 => ?_)
        -- region 6: wheel.go:183
        refine tr_region ?_
        refine tr_val (ov_assign rfl rfl) rfl rfl rfl ?_
        refine tr_val (ov_assign rfl rfl) rfl rfl rfl ?_
        refine tr_nil (hK7 _ _ (TrC.keep [5, 4, 14, 10, 7, 0, 1] ?_))
        show TrC _ _ _ _ [(5, _), (4, _), (14, _), (10, _), (7, _), (0, _), (1, _)] _ _
        refine tr_ret (post_ret2 (.inr rfl) rfl rfl rfl ?_)
        have he : advE now to_ = 34 := by unfold advE; rw [if_neg (by omega), if_pos (by omega)]
        unfold advF advX advN
        rw [he, if_neg (by decide), if_neg (by decide), if_neg (by decide)]
        exact ⟨none, 0, rfl, L, hX, H.addNil 30 3 encThing⟩
      · skip
        refine tr_skip (hK2 _ _ (TrC.keep [14, 10, 7, 5, 4, 0, 1] ?_))
        show TrC _ _ _ _ [(14, _), (10, _), (7, _), (5, _), (4, _), (0, _), (1, _)] _ _
        refine tr_seq (fun K8 hK8 => ?_)
        -- region 7: wheel.go:185
        refine tr_region ?_
        refine tr_val (ov_move rfl rfl) rfl rfl rfl ?_
        refine tr_call (wlate_c d now X L _ hX H.get0) rfl rfl rfl Try.call56 rfl rfl rfl ?_
        rintro _ w3 ⟨A1, c1, l1, rfl, hp1, L1, hX1, HC⟩
        have H := H.call1e HC
        have hs1 := hp1.length_eq
        have hs2 := List.length_filter_le (fun t : Thing => decide (t.due ≤ now)) X
        refine tr_val (ov_assign rfl rfl) rfl rfl rfl ?_
        refine tr_nil (hK8 _ _ (TrC.keep [6, 14, 10, 7, 5, 4, 0, 1] ?_))
        show TrC _ _ _ _ [(6, _), (14, _), (10, _), (7, _), (5, _), (4, _), (0, _), (1, _)] _ _
        refine tr_seq (fun K9 hK9 => ?_)
        -- region 8: wheel.go:186
        refine tr_region ?_
        refine tr_val (ov_move rfl rfl) rfl rfl rfl ?_
        refine tr_val (ov_move rfl rfl) rfl rfl rfl ?_
        refine tr_val (ov_move rfl rfl) rfl rfl rfl ?_
        refine tr_call (turn_c d now to_ _ L1 _ hX1 H.get1 (fun t ht => of_decide_eq_true (List.mem_filter.mp ht).2) (by omega) (by omega)) rfl rfl rfl Try.call57 rfl rfl rfl ?_
        rintro _ w4 ⟨A2, c2, l2, rfl, hp2, L2, hX2, HC⟩
        have H := H.top1.call1e HC
        have hs3 := hp2.length_eq
        have hs4 := List.length_filter_le (fun t : Thing => decide (t.due ≤ to_)) (X.filter fun t => decide (now < t.due))
        have hs5 := List.length_filter_le (fun t : Thing => decide (now < t.due)) X
        refine tr_append (M := l2) H.get2 (vec_rd H.get0 lenThing (by decide)) rfl rfl rfl Try.underlying32 info30 rfl rfl (show Try.t30.bytes = 24 from rfl) rfl (by decide) lenThing oneThing (by (try unfold maxLen); omega) (by (try unfold maxLen); omega) rfl rfl rfl ?_
        intro A3 c3 w30 U; have H := H.upd2 U; clear U
        refine tr_val (ov_assign rfl rfl) rfl rfl rfl ?_
        refine tr_nil (hK9 _ _ (TrC.keep [6, 14, 10, 7, 5, 4, 0, 1] ?_))
        show TrC _ _ _ _ [(6, _), (14, _), (10, _), (7, _), (5, _), (4, _), (0, _), (1, _)] _ _
        refine tr_seq (fun K10 hK10 => ?_)
        -- region 9: wheel.go:187
        have hpp := adv_perm (by omega : now ≤ to_) hp1 hp2
        rw [adv_rest (by omega)] at hX2
        have hs6 := hpp.length_eq
        have hs7 := List.length_filter_le (fun t : Thing => decide (t.due ≤ to_)) X
        refine tr_region ?_
        refine tr_val (ov_move rfl rfl) rfl rfl rfl ?_
        refine tr_call (Sort_c A3 c3 (l1 ++ l2) _ H.get2 (by omega)) rfl rfl rfl Try.call17 rfl rfl rfl ?_
        rintro _ w5 HC
        have H := H.top2.call1 HC
        have hsl := sortT_len (l1 ++ l2)
        rw [← hsl]
        rw [sort_eq ((hids.sub List.filter_sublist).perm hpp.symm) hpp] at H ⊢
        refine tr_nil (hK10 _ _ (TrC.keep [6, 14, 10, 7, 5, 4, 0, 1] ?_))
        show TrC _ _ _ _ [(6, _), (14, _), (10, _), (7, _), (5, _), (4, _), (0, _), (1, _)] _ _
        refine tr_seq (fun K11 hK11 => ?_)
        -- region 10: wheel.go:188
        refine tr_region ?_
        refine tr_val (ov_move rfl rfl) rfl rfl rfl ?_
        refine tr_val (ov_assign rfl rfl) rfl rfl rfl ?_
        refine tr_val (ov_assign rfl rfl) rfl rfl rfl ?_
        refine tr_nil (hK11 _ _ (TrC.keep [5, 4, 6, 14, 10, 7, 0, 1] ?_))
        show TrC _ _ _ _ [(5, _), (4, _), (6, _), (14, _), (10, _), (7, _), (0, _), (1, _)] _ _
        refine tr_ret (post_ret2 (.inr rfl) rfl rfl rfl ?_)
        have he : advE now to_ = 0 := advE_zero (by omega)
        unfold advF advX advN
        rw [he, if_pos rfl, if_pos rfl, if_pos rfl]
        exact ⟨A3, c3, rfl, L2, hX2, H.drop1⟩

/-! (*curfew/wheel.Wheel).Advance -/
set_option maxRecDepth 20000 in
theorem wAdvance_n (p : Option Addr) (w : World) (hp : NoWheel w p) (to_ : Int) : Does Try.prog 16 #[.pointer p, .int .i64 to_] w (fun v w' => v = .tuple #[.slice none 0 0, .int .i64 1] ∧ SH w noBlocks [] w') := by
  refine does_enter2 Try.func16 rfl Try.ntmps16 rfl ?_
  have H := SH.start w noBlocks
  refine tr_seq (fun K1 hK1 => ?_)
  -- region 0: wheel.go:176
  refine tr_region ?_
  refine tr_val (ov_assign rfl rfl) rfl rfl rfl ?_
  refine tr_val (ov_assign rfl rfl) rfl rfl rfl ?_
  refine tr_nil (hK1 _ _ (TrC.keep [5, 4, 0, 1] ?_))
  show TrC _ _ _ _ [(5, _), (4, _), (0, _), (1, _)] _ _
  refine tr_seq (fun K2 hK2 => ?_)
  refine tr_block ?_
  refine tr_seq (fun K3 hK3 => ?_)
  -- region 1: wheel.go:178
  refine tr_region ?_
  refine tr_val (ov_move rfl rfl) rfl rfl rfl ?_
  refine tr_call (wnone_n p _ (hp.later H)) rfl rfl rfl Try.call54 rfl rfl rfl ?_
  rintro _ w1 ⟨rfl, HC⟩
  have H := H.call0n HC
  refine tr_val (ov_assign rfl rfl) rfl rfl rfl ?_
  refine tr_nil (hK3 _ _ (TrC.keep [7, 5, 4, 0, 1] ?_))
  show TrC _ _ _ _ [(7, _), (5, _), (4, _), (0, _), (1, _)] _ _
  refine tr_condb rfl (fun c7 => ?_) (fun c7 => ?_)
  · skip
    refine tr_seq (fun K4 hK4 => ?_)
    -- region 2: wheel.go:179
    refine tr_region ?_
    refine tr_val (ov_assign rfl rfl) rfl rfl rfl ?_
    refine tr_val (ov_assign rfl rfl) rfl rfl rfl ?_
    refine tr_nil (hK4 _ _ (TrC.keep [5, 4, 7, 0, 1] ?_))
    show TrC _ _ _ _ [(5, _), (4, _), (7, _), (0, _), (1, _)] _ _
    refine tr_ret (post_ret2 (.inr rfl) rfl rfl rfl ?_)
    exact ⟨rfl, H⟩
  · cases c7

theorem wheelX_perm {d : Nat} {now : Int} {X Y : List Thing} {L : List Res} (h : WheelX 65 117 161 30 d now X L) (p : X.Perm Y) : WheelX 65 117 161 30 d now Y L := by
  obtain ⟨Rs, Fv, hW, hM⟩ := h
  exact ⟨Rs, Fv, hW.perm p, hM⟩

theorem gt_snoc {α : Type} [Inhabited α] {L : List α} {x : α} {j : Int} (h0 : 0 ≤ j) (h1 : j ≤ L.length) : gt (L ++ [x]) j = if j = L.length then x else gt L j := by
  by_cases h : j = L.length
  · rw [if_pos h, gt_eq h0 (by simp; omega)]
    subst h; simp
  · rw [if_neg h, gt_eq h0 (by simp; omega), gt_eq h0 (by omega), List.getElem_append_left (by omega)]

/-! curfew/wheel.New -/
set_option maxRecDepth 20000 in
theorem wNew_c (now : Int) (w : World) (hn : 0 ≤ now ∧ now ≤ 1125899906842624) : Does Try.prog 14 #[.int .i64 now] w (fun v w' => ∃ d L, v = .pointer (some ⟨d, 0, none⟩) ∧ WheelX 65 117 161 30 d now [] L ∧ SH w noBlocks [pack L] w') := by
  refine does_enter1 Try.func14 rfl Try.ntmps14 rfl ?_
  have H := SH.start w noBlocks
  refine tr_seq (fun K1 hK1 => ?_)
  -- region 0: wheel.go:36
  refine tr_region ?_
  refine tr_val (ov_assign rfl rfl) rfl rfl rfl ?_
  refine tr_nil (hK1 _ _ (TrC.keep [2, 0] ?_))
  show TrC _ _ _ _ [(2, _), (0, _)] _ _
  refine tr_seq (fun K2 hK2 => ?_)
  refine tr_seq (fun K3 hK3 => ?_)
  -- region 1: wheel.go:37
  refine tr_region ?_
  refine tr_val (ov_move rfl rfl) rfl rfl rfl ?_
  refine tr_call (instW_c now _) rfl rfl rfl Try.call52 rfl rfl rfl ?_
  rintro _ w1 ⟨rfl, HC⟩
  have H := H.call0n HC
  refine tr_val (ov_not rfl rfl) rfl rfl rfl ?_
  refine tr_nil (hK3 _ _ (TrC.keep [7, 2, 0] ?_))
  show TrC _ _ _ _ [(7, _), (2, _), (0, _)] _ _
  refine tr_cond rfl (fun c7 => ?_) (fun c7 => ?_)
  · exact absurd hn c7
  · skip
    refine tr_skip (hK2 _ _ (TrC.keep [7, 2, 0] ?_))
    show TrC _ _ _ _ [(7, _), (2, _), (0, _)] _ _
    refine tr_seq (fun K4 hK4 => ?_)
    -- region 3: wheel.go:40
    refine tr_region ?_
    refine tr_val (ov_move rfl rfl) rfl rfl rfl ?_
    refine tr_makeMap .u64 encTh H rfl rfl rfl rfl ?_
    intro m w1m H
    refine tr_val (ov_build rfl (fun ρ k => bs1 k rfl) (bld117_0 _ _)) rfl rfl rfl ?_
    refine tr_box H rfl rfl rfl rfl rfl rfl ?_
    intro f w2 hf H
    refine tr_val (ov_build rfl (fun ρ k => bs2 k rfl rfl) (bld65_0_2 _ _ _)) rfl rfl rfl ?_
    refine tr_box H rfl rfl rfl rfl rfl rfl ?_
    intro d w3 hd H
    refine tr_val (ov_assign rfl rfl) rfl rfl rfl ?_
    refine tr_nil (hK4 _ _ (TrC.keep [3, 7, 2, 0] ?_))
    show TrC _ _ _ _ [(3, _), (7, _), (2, _), (0, _)] _ _
    refine tr_seq (fun K5 hK5 => ?_)
    refine tr_seq (fun K6 hK6 => ?_)
    -- region 4: wheel.go:41
    have H : SH w noBlocks (blk d 65 (newW now [] f) :: blk f 117 [.map (some m)] :: mapT m [] 0 :: ([] : List (List Res)).map pack) _ := H
    refine tr_region ?_
    refine tr_val (ov_move rfl rfl) rfl rfl rfl ?_
    refine tr_nil (hK6 _ _ (TrC.keep [14, 3, 7, 2, 0] ?_))
    show TrC _ _ _ _ [(14, _), (3, _), (7, _), (2, _), (0, _)] _ _
    refine tr_block ?_
    refine tr_loop_ (X := Int × List Nat × List (List Res)) [3, 7, 2, 0] (fun ⟨i, ds, Ls⟩ => [(14, .int .i64 i)]) (fun ⟨i, ds, Ls⟩ w' => 0 ≤ i ∧ i ≤ 4 ∧ ds.length = i.toNat ∧ Ls.length = i.toNat ∧ (∀ j : Int, 0 ≤ j → j < i → RingL 161 30 (gt ds j) [] (gt Ls j)) ∧ SH w noBlocks (blk d 65 (newW now ds f) :: blk f 117 [.map (some m)] :: mapT m [] 0 :: Ls.map pack) w') (fun ⟨i, ds, Ls⟩ => (4 - i).toNat) (⟨0, [], []⟩) (Sub.cons rfl (Sub.cons rfl (Sub.cons rfl (Sub.cons rfl (Sub.cons rfl Sub.nil))))) (⟨by omega, by omega, rfl, rfl, fun j h0 h1 => by omega, H⟩) ?_
    rintro ⟨i, ds, Ls⟩ w4 ⟨hi0, hi1, hdl, hll, hrr, H⟩ K7 hK7
    show TrC _ _ _ _ [(14, _), (3, _), (7, _), (2, _), (0, _)] _ _
    refine tr_seq (fun K8 hK8 => ?_)
    -- region 5: wheel.go:41
    refine tr_region ?_
    refine tr_val (ov_lss rfl rfl rfl) rfl rfl rfl ?_
    refine tr_nil (hK8 _ _ (TrC.keep [15, 14, 3, 7, 2, 0] ?_))
    show TrC _ _ _ _ [(15, _), (14, _), (3, _), (7, _), (2, _), (0, _)] _ _
    refine tr_seq (fun K9 hK9 => ?_)
    refine tr_cond rfl (fun c15 => ?_) (fun c15 => ?_)
    · skip
      refine tr_skip (hK9 _ _ (TrC.keep [15, 14, 3, 7, 2, 0] ?_))
      show TrC _ _ _ _ [(15, _), (14, _), (3, _), (7, _), (2, _), (0, _)] _ _
      refine tr_seq (fun K10 hK10 => ?_)
      refine tr_block ?_
      refine tr_seq (fun K11 hK11 => ?_)
      -- region 6: wheel.go:41
      refine tr_region ?_
      refine tr_val (ov_move rfl rfl) rfl rfl rfl ?_
      refine tr_val (ov_assign rfl rfl) rfl rfl rfl ?_
      refine tr_nil (hK11 _ _ (TrC.keep [4, 15, 14, 3, 7, 2, 0] ?_))
      show TrC _ _ _ _ [(4, _), (15, _), (14, _), (3, _), (7, _), (2, _), (0, _)] _ _
      -- region 7: wheel.go:42
      refine tr_held (fun _ => True) mixed rfl H ?_
      intro w5 H
      refine th_take 0 rfl (by kernel_rfl) (by kernel_rfl) (by kernel_rfl) (trivial) (fun _ hS => ov_move rfl rfl) rfl rfl rfl ?_
      refine th_take 1 rfl (by kernel_rfl) (by kernel_rfl) (by kernel_rfl) (trivial) (fun _ hS => ov_move rfl rfl) rfl rfl rfl ?_
      refine th_take 3 rfl (by kernel_rfl) (by kernel_rfl) (by kernel_rfl) (trivial) (fun _ hS => ov_nilCheck rfl rfl) rfl rfl rfl ?_
      refine th_take 4 rfl (by kernel_rfl) (by kernel_rfl) (by kernel_rfl) (trivial) (fun _ hS => ov_fieldAddr rfl Try.underlying65 rfl (Try.sizeOf62 _) (by decide) rfl) rfl rfl rfl ?_
      refine th_one 2 (by kernel_rfl) ?_
      refine tw_call (ringNew_c _) rfl rfl rfl rfl Try.call53 rfl rfl rfl ?_
      rintro _ w6 ⟨b, R, rfl, hR, HC⟩
      have H := H.call0r HC
      refine ⟨trivial, ?_⟩
      refine th_take 5 rfl (by kernel_rfl) (by kernel_rfl) (by kernel_rfl) (trivial) (fun _ hS => ov_indexAddrA rfl Try.underlying62 (Try.sizeOf61 _) rfl rfl (by omega) (by omega)) rfl rfl rfl ?_
      refine th_one 6 (by kernel_rfl) ?_
      refine tw_store (b := d) (j := 1 + i.toNat) H.get1 rfl rfl (Try.sizeOf61 _) rfl (adr_ring d i.toNat) rfl rfl (Nat.blt_eq.mpr (by rw [newW_len (by omega)]; omega)) rfl rfl ?_
      intro w9 U
      rw [newW_set hi0 (by omega) hdl] at U
      have H := H.upd1 U; clear U
      refine ⟨trivial, ?_⟩
      refine th_done (by kernel_rfl) ?_
      refine hK10 _ _ (TrC.keep [15, 14, 3, 7, 2, 0] ?_)
      show TrC _ _ _ _ [(15, _), (14, _), (3, _), (7, _), (2, _), (0, _)] _ _
      -- region 8: wheel.go:41
      refine tr_region ?_
      refine tr_val (ov_add rfl rfl rfl (w64 (by omega))) rfl rfl rfl ?_
      refine tr_val (ov_move rfl rfl) rfl rfl rfl ?_
      have H := rot1 H
      exact tr_nil (hK7 (⟨i + 1, (ds ++ [b]), (Ls ++ [R])⟩) _ _ (⟨by omega, by omega, by simp; omega, by simp; omega, fun j h0 h1 => by
        rw [gt_snoc h0 (by omega), gt_snoc h0 (by omega)]
        by_cases e : j = i
        · rw [if_pos (by omega), if_pos (by omega)]; exact hR
        · rw [if_neg (by omega), if_neg (by omega)]; exact hrr j h0 (by omega), by rw [List.map_append]; exact H⟩) (by (dsimp only; omega)) (Sub.cons rfl (Sub.cons rfl (Sub.cons rfl (Sub.cons rfl (Sub.cons rfl Sub.nil))))))
    · skip
      refine tr_exit (hK5 _ _ (TrC.keep [15, 14, 3, 7, 2, 0] ?_))
      show TrC _ _ _ _ [(15, _), (14, _), (3, _), (7, _), (2, _), (0, _)] _ _
      refine tr_seq (fun K12 hK12 => ?_)
      -- region 9: wheel.go:44
      refine tr_region ?_
      refine tr_val (ov_move rfl rfl) rfl rfl rfl ?_
      refine tr_val (ov_assign rfl rfl) rfl rfl rfl ?_
      refine tr_nil (hK12 _ _ (TrC.keep [2, 15, 14, 3, 7, 0] ?_))
      show TrC _ _ _ _ [(2, _), (15, _), (14, _), (3, _), (7, _), (0, _)] _ _
      refine tr_ret (post_ret1 (.inr rfl) rfl rfl ?_)
      have hi : i = 4 := by omega
      subst hi
      rw [newW_all hdl] at H
      exact ⟨d, _, rfl, ⟨List.replicate 4 [], [], WRel.start hn, f, m, ds, [], 0, Ls, ⟨hdl, hll, fun j h0 h1 => by rw [gt_rep h0 (by omega)]; exact hrr j h0 h1⟩, FarE.nil, rfl⟩, SH.pack1 H⟩

/-! curfew/wheel.New -/
set_option maxRecDepth 20000 in
theorem wNew_nil (now : Int) (w : World) (hn : ¬ (0 ≤ now ∧ now ≤ 1125899906842624)) : Does Try.prog 14 #[.int .i64 now] w (fun v w' => v = .pointer none ∧ SH w noBlocks [] w') := by
  refine does_enter1 Try.func14 rfl Try.ntmps14 rfl ?_
  have H := SH.start w noBlocks
  refine tr_seq (fun K1 hK1 => ?_)
  -- region 0: wheel.go:36
  refine tr_region ?_
  refine tr_val (ov_assign rfl rfl) rfl rfl rfl ?_
  refine tr_nil (hK1 _ _ (TrC.keep [2, 0] ?_))
  show TrC _ _ _ _ [(2, _), (0, _)] _ _
  refine tr_seq (fun K2 hK2 => ?_)
  refine tr_seq (fun K3 hK3 => ?_)
  -- region 1: wheel.go:37
  refine tr_region ?_
  refine tr_val (ov_move rfl rfl) rfl rfl rfl ?_
  refine tr_call (instW_c now _) rfl rfl rfl Try.call52 rfl rfl rfl ?_
  rintro _ w1 ⟨rfl, HC⟩
  have H := H.call0n HC
  refine tr_val (ov_not rfl rfl) rfl rfl rfl ?_
  refine tr_nil (hK3 _ _ (TrC.keep [7, 2, 0] ?_))
  show TrC _ _ _ _ [(7, _), (2, _), (0, _)] _ _
  refine tr_cond rfl (fun c7 => ?_) (fun c7 => ?_)
  · skip
    refine tr_seq (fun K4 hK4 => ?_)
    -- region 2: wheel.go:38
    refine tr_region ?_
    refine tr_val (ov_assign rfl rfl) rfl rfl rfl ?_
    refine tr_nil (hK4 _ _ (TrC.keep [2, 7, 0] ?_))
    show TrC _ _ _ _ [(2, _), (7, _), (0, _)] _ _
    refine tr_ret (post_ret1 (.inr rfl) rfl rfl ?_)
    exact ⟨rfl, H⟩
  · exact absurd (Classical.not_not.mp c7) hn

end Go.Proofs.Ytblipnjjgbggiaa
