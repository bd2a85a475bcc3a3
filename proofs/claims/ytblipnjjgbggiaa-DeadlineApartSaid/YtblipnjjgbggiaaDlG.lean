/- Contracts of wheel.Wheel: curfewref13 and do of law 13, with a list that is only read. Conditions: none. -/
import Derived.Test.YtblipnjjgbggiaaDlS
namespace Go.Proofs.Ytblipnjjgbggiaa
open Go Go.RowKit
set_option linter.unusedVariables false
set_option linter.unusedSimpArgs false

def optV (bo : Bool) (A : Option Addr) (W : List RThing) : Res := if bo then rdr A 4 (W.map encRThing) else emp
section
variable {w w0 w' : World} {F : Nat → Prop} {rs : List Res} {r : Res} {bo bo1 : Bool} {A A0 A1 : Option Addr} {W W0 W1 : List RThing}
theorem SH.resF' (H : SH w0 F rs w) (h : r.holds w0) (hF : ∀ b, r.foot b → ¬ F b) : r.holds w := r.loc w0 w (fun x hx => H.keep x (r.inside w0 x h hx) (hF x hx)) h
theorem SH.optNil (A : Option Addr) (W : List RThing) (H : SH w0 F rs w) : SH w0 F (optV false A W :: rs) w := H.add ⟨rfl, rfl, rfl, Nat.le_refl _, fun _ _ _ => rfl, trivial, fun b hb => hb.elim⟩
theorem SH.dis2 {s : Res} (H : SH w0 F (r :: s :: rs) w) : ∀ b, r.foot b → ¬ s.foot b := fun b => (List.pairwise_cons.mp H.disj).1 s (by simp) b
theorem opt_rd (hb : bo = false → A = A0 ∧ W = W0) (h0 : Rd w A0 4 (W0.map encRThing)) (h : (optV bo A W).holds w) : Rd w A 4 (W.map encRThing) := by
  cases bo with
  | false => obtain ⟨rfl, rfl⟩ := hb rfl; exact h0
  | true => exact rdr_rd h
theorem opt_use (hb : bo = false → A = A0 ∧ W = W0) (H : SH w0 F (r :: optV bo A W :: rdr A0 4 (W0.map encRThing) :: rs) w) : (rdr A 4 (W.map encRThing)).holds w ∧ ∀ x, (rdr A 4 (W.map encRThing)).foot x → ¬ r.foot x := by
  have hd := (List.pairwise_cons.mp H.disj).1
  cases bo with
  | false => obtain ⟨rfl, rfl⟩ := hb rfl; exact ⟨H.get2, fun x hx hr => hd _ (by simp) x hr hx⟩
  | true => exact ⟨H.get1, fun x hx hr => hd (optV true A W) (by simp) x hr hx⟩
theorem opt_join (hb1 : bo1 = false → A1 = A0 ∧ W1 = W0) (hb : bo = false → A = A1 ∧ W = W1) (H : SH w0 F (r :: optV bo A W :: optV bo1 A1 W1 :: rs) w) : ∃ b2 : Bool, (b2 = false → A = A0 ∧ W = W0) ∧ SH w0 F (r :: optV b2 A W :: rs) w := by
  cases bo with
  | true => exact ⟨true, (fun h => by cases h), H.drop2⟩
  | false => obtain ⟨rfl, rfl⟩ := hb rfl; exact ⟨bo1, hb1, H.drop1⟩
end
theorem NewL.opt {B A' : Option Addr} {c c' : Nat} {W W' : List RThing} {w w' : World} (h : NewL B c W A' c' W' w w') (hc : W.length ≤ c) : ∃ bo : Bool, (bo = false → A' = B ∧ W' = W) ∧ W'.length ≤ c' ∧ SH w noBlocks [optV bo A' W'] w' := by
  rcases h with ⟨rfl, rfl, rfl, H⟩ | H
  · exact ⟨false, fun _ => ⟨rfl, rfl⟩, hc, H.optNil _ _⟩
  · exact ⟨true, (fun h => by cases h), vec_len H.get0, H.upd0 (upd_rdr_of_vec H.get0 lenRThing (by decide))⟩
theorem AdvL.opt {B A' Af : Option Addr} {c c' cf : Nat} {W W' F : List RThing} {w w' : World} (h : AdvL B c W Af cf F A' c' W' w w') (hc : W.length ≤ c) : ∃ bo : Bool, (bo = false → A' = B ∧ W' = W) ∧ W'.length ≤ c' ∧ SH w noBlocks [optV bo A' W', vec Af cf 59 4 encRThing F] w' := by
  rcases h with ⟨rfl, rfl, rfl, rfl, rfl, rfl, H⟩ | H
  · exact ⟨false, fun _ => ⟨rfl, rfl⟩, hc, (H.addNil 59 4 encRThing).optNil _ _⟩
  · exact ⟨true, (fun h => by cases h), vec_len H.get0, H.upd0 (upd_rdr_of_vec H.get0 lenRThing (by decide))⟩

/-! curfew/curfewref13.Clear -/
set_option maxRecDepth 20000 in
theorem ClearR_r (B : Option Addr) (c : Nat) (W : List RThing) (now last : Int) (w : World) (hW : W.length ≤ 60000) (hc : W.length ≤ c) (hR : Rd w B 4 (W.map encRThing)) (id : Int) : Does Try.prog 74 #[.agg #[.int .i64 now, .int .u64 last, .slice B (W).length c], .int .u64 id] w (fun v w' => ∃ A' c' bo, v = .tuple #[.agg #[.int .i64 now, .int .u64 last, .slice A' ((dropR id W)).length c'], .agg #[.int .u64 (rOr (findR id W)).id, .int .u64 (rOr (findR id W)).gen, .int .i64 (rOr (findR id W)).due, .int .i64 (rOr (findR id W)).slot], .bool (findR id W).isSome] ∧ (bo = false → A' = B ∧ (dropR id W) = W) ∧ ((dropR id W)).length ≤ c' ∧ SH w noBlocks [optV bo A' (dropR id W)] w') := by
  refine does_enter2 Try.func74 rfl Try.ntmps74 rfl ?_
  have H := SH.start w noBlocks
  refine tr_seq (fun K1 hK1 => ?_)
  -- region 0: ref.go:45
  refine tr_region ?_
  refine tr_box H rfl rfl rfl rfl rfl rfl ?_
  intro b1 w1 hb1 H
  refine tr_alloc H rfl (Try.zeroValue85 _) rfl rfl rfl rfl ?_
  intro b2 w2 hb2 H
  refine tr_alloc H rfl (Try.zeroValue59 _) rfl rfl rfl rfl ?_
  intro b3 w3 hb3 H
  refine tr_val (ov_assign rfl rfl) rfl rfl rfl ?_
  refine tr_nil (hK1 _ _ (TrC.keep [6, 5, 4, 2, 1] ?_))
  show TrC _ _ _ _ [(6, _), (5, _), (4, _), (2, _), (1, _)] _ _
  refine tr_seq (fun K2 hK2 => ?_)
  -- region 1: ref.go:46
  refine tr_region ?_
  refine tr_val (ov_fieldAddr rfl Try.underlying85 rfl (Try.sizeOf2 _) (by decide) rfl) rfl rfl rfl ?_
  refine tr_val (ov_load_blk H.get2 rfl (Try.isAgg2 _) rfl rfl rfl) rfl rfl rfl ?_
  refine tr_val (ov_fieldAddr rfl Try.underlying85 rfl (Try.sizeOf46 _) (by decide) rfl) rfl rfl rfl ?_
  refine tr_val (ov_load_blk H.get2 rfl (Try.isAgg46 _) rfl rfl rfl) rfl rfl rfl ?_
  refine tr_val (ov_build rfl (fun ρ k => bs2 k rfl rfl) (bld48_0_1 _ _ _ _ _)) rfl rfl rfl ?_
  refine tr_val (ov_move rfl rfl) rfl rfl rfl ?_
  refine tr_call (CancelR_c B c W now _ (H.rd0 hR) hW hc id) rfl rfl rfl Try.call64 rfl rfl rfl ?_
  rintro _ w4 ⟨A1, c1, rfl, HN⟩
  obtain ⟨bo, hbo, hc1, HC⟩ := HN.opt hc
  have H := H.call0r HC
  refine tr_val (ov_move rfl rfl) rfl rfl rfl ?_
  refine tr_val (ov_extract rfl rfl rfl) rfl rfl rfl ?_
  refine tr_val (ov_extract rfl rfl rfl) rfl rfl rfl ?_
  refine tr_val (ov_extract rfl rfl rfl) rfl rfl rfl ?_
  refine tr_alloc H rfl (Try.zeroValue48 _) rfl rfl rfl rfl ?_
  intro b4 w5 hb4 H
  refine tr_alloc H rfl (Try.zeroValue59 _) rfl rfl rfl rfl ?_
  intro b5 w6 hb5 H
  (refine tr_storeW H.get1 rfl (Try.sizeOf48 _) rfl rfl rfl rfl rfl rfl rfl rfl ?_; intro w7 U; have H := H.upd1 U; clear U)
  (refine tr_storeW H.get0 rfl (Try.sizeOf59 _) rfl rfl rfl rfl rfl rfl rfl rfl ?_; intro w8 U; have H := H.upd0 U; clear U)
  refine tr_val (ov_assign rfl rfl) rfl rfl rfl ?_
  refine tr_nil (hK2 _ _ (TrC.keep [9, 8, 7, 6, 5, 4, 2] ?_))
  show TrC _ _ _ _ [(9, _), (8, _), (7, _), (6, _), (5, _), (4, _), (2, _)] _ _
  refine tr_seq (fun K3 hK3 => ?_)
  -- region 2: ref.go:47
  refine tr_region ?_
  refine tr_val (ov_fieldAddr rfl Try.underlying48 rfl (Try.sizeOf46 _) (by decide) rfl) rfl rfl rfl ?_
  refine tr_val (ov_load_blk H.get1 rfl (Try.isAgg46 _) rfl rfl rfl) rfl rfl rfl ?_
  refine tr_val (ov_fieldAddr rfl Try.underlying85 rfl (Try.sizeOf46 _) (by decide) rfl) rfl rfl rfl ?_
  (refine tr_store H.get5 rfl (Try.sizeOf46 _) rfl rfl rfl rfl rfl rfl rfl ?_; intro w9 U; have H := H.upd5 U; clear U)
  try simp only [List.set_cons_zero, List.set_cons_succ, Nat.zero_add] at H
  refine tr_nil (hK3 _ _ (TrC.keep [9, 8, 7, 6, 5, 4, 2] ?_))
  show TrC _ _ _ _ [(9, _), (8, _), (7, _), (6, _), (5, _), (4, _), (2, _)] _ _
  refine tr_seq (fun K4 hK4 => ?_)
  -- region 3: ref.go:48
  refine tr_held (fun w' => (blk b1 85 [.int .i64 now, .int .u64 last, .slice A1 ((dropR id W)).length c1]).holds w' ∧ (blk b5 59 [.int .u64 (rOr (findR id W)).id, .int .u64 (rOr (findR id W)).gen, .int .i64 (rOr (findR id W)).due, .int .i64 (rOr (findR id W)).slot]).holds w') mixed rfl H ?_
  intro w10 H
  refine th_take 0 rfl (by kernel_rfl) (by kernel_rfl) (by kernel_rfl) (⟨H.get5, H.get0⟩) (fun _ hS => ov_load_blkN hS.1 rfl (Try.isAgg85 _) (Try.sizeOf85 _) rfl rfl rfl) rfl rfl rfl ?_
  refine th_take 1 rfl (by kernel_rfl) (by kernel_rfl) (by kernel_rfl) (⟨H.get5, H.get0⟩) (fun _ hS => ov_load_blkN hS.2 rfl (Try.isAgg59 _) (Try.sizeOf59 _) rfl rfl rfl) rfl rfl rfl ?_
  refine th_take 2 rfl (by kernel_rfl) (by kernel_rfl) (by kernel_rfl) (⟨H.get5, H.get0⟩) (fun _ hS => ov_move rfl rfl) rfl rfl rfl ?_
  refine th_one 3 (by kernel_rfl) ?_
  (refine tw_storeW H.get4 rfl rfl (Try.sizeOf85 _) rfl rfl rfl rfl rfl rfl rfl rfl ?_; intro w11 U; have H := H.upd4 U; clear U)
  refine ⟨⟨H.get5, H.get0⟩, ?_⟩
  refine th_one 4 (by kernel_rfl) ?_
  (refine tw_storeW H.get3 rfl rfl (Try.sizeOf59 _) rfl rfl rfl rfl rfl rfl rfl rfl ?_; intro w12 U; have H := H.upd3 U; clear U)
  refine ⟨⟨H.get5, H.get0⟩, ?_⟩
  refine th_take 5 rfl (by kernel_rfl) (by kernel_rfl) (by kernel_rfl) (⟨H.get5, H.get0⟩) (fun _ hS => ov_assign rfl rfl) rfl rfl rfl ?_
  refine th_done (by kernel_rfl) ?_
  refine hK4 _ _ (TrC.keep [6, 9, 8, 7, 5, 4, 2] ?_)
  show TrC _ _ _ _ [(6, _), (9, _), (8, _), (7, _), (5, _), (4, _), (2, _)] _ _
  refine tr_ret (post_ret3 (.inr rfl) rfl (by exact ⟨_, rfl, res_blkN H.get4 (Try.isAgg85 _) (Try.sizeOf85 _) rfl rfl⟩) (by exact ⟨_, rfl, res_blkN H.get3 (Try.isAgg59 _) (Try.sizeOf59 _) rfl rfl⟩) rfl ?_)
  exact ⟨A1, c1, bo, rfl, hbo, hc1, H.drop0.drop0.drop1.drop1.drop1⟩

/-! curfew/curfewref13.Advance -/
set_option maxRecDepth 20000 in
theorem AdvR13_r (B : Option Addr) (c : Nat) (W : List RThing) (now last : Int) (w : World) (hW : W.length ≤ 60000) (hc : W.length ≤ c) (hR : Rd w B 4 (W.map encRThing)) (to_ : Int) (hU : UpD W) : Does Try.prog 75 #[.agg #[.int .i64 now, .int .u64 last, .slice B (W).length c], .int .i64 to_] w (fun v w' => ∃ Af cf A' c' bo, v = .tuple #[.agg #[.int .i64 (advN now to_), .int .u64 last, .slice A' ((advXR now to_ W)).length c'], .slice Af (advFR now to_ W).length cf, .int .i64 (advE now to_)] ∧ (bo = false → A' = B ∧ (advXR now to_ W) = W) ∧ ((advXR now to_ W)).length ≤ c' ∧ SH w noBlocks [optV bo A' (advXR now to_ W), vec Af cf 59 4 encRThing (advFR now to_ W)] w') := by
  refine does_enter2 Try.func75 rfl Try.ntmps75 rfl ?_
  have H := SH.start w noBlocks
  refine tr_seq (fun K1 hK1 => ?_)
  -- region 0: ref.go:69
  refine tr_region ?_
  refine tr_box H rfl rfl rfl rfl rfl rfl ?_
  intro b1 w1 hb1 H
  refine tr_alloc H rfl (Try.zeroValue85 _) rfl rfl rfl rfl ?_
  intro b2 w2 hb2 H
  refine tr_val (ov_assign rfl rfl) rfl rfl rfl ?_
  refine tr_val (ov_assign rfl rfl) rfl rfl rfl ?_
  refine tr_nil (hK1 _ _ (TrC.keep [6, 5, 4, 2, 1] ?_))
  show TrC _ _ _ _ [(6, _), (5, _), (4, _), (2, _), (1, _)] _ _
  refine tr_seq (fun K2 hK2 => ?_)
  -- region 1: ref.go:70
  refine tr_region ?_
  refine tr_val (ov_fieldAddr rfl Try.underlying85 rfl (Try.sizeOf2 _) (by decide) rfl) rfl rfl rfl ?_
  refine tr_val (ov_load_blk H.get1 rfl (Try.isAgg2 _) rfl rfl rfl) rfl rfl rfl ?_
  refine tr_val (ov_fieldAddr rfl Try.underlying85 rfl (Try.sizeOf46 _) (by decide) rfl) rfl rfl rfl ?_
  refine tr_val (ov_load_blk H.get1 rfl (Try.isAgg46 _) rfl rfl rfl) rfl rfl rfl ?_
  refine tr_val (ov_build rfl (fun ρ k => bs2 k rfl rfl) (bld48_0_1 _ _ _ _ _)) rfl rfl rfl ?_
  refine tr_val (ov_move rfl rfl) rfl rfl rfl ?_
  refine tr_call (AdvanceR_c B c W now _ (H.rd0 hR) hW hc to_ hU) rfl rfl rfl Try.call66 rfl rfl rfl ?_
  rintro _ w3 ⟨Af, cf, A1, c1, rfl, HN⟩
  obtain ⟨bo, hbo, hc1, HC⟩ := HN.opt hc
  have H := H.call0 HC
  refine tr_val (ov_move rfl rfl) rfl rfl rfl ?_
  refine tr_val (ov_extract rfl rfl rfl) rfl rfl rfl ?_
  refine tr_val (ov_extract rfl rfl rfl) rfl rfl rfl ?_
  refine tr_val (ov_extract rfl rfl rfl) rfl rfl rfl ?_
  refine tr_alloc H rfl (Try.zeroValue48 _) rfl rfl rfl rfl ?_
  intro b4 w4 hb4 H
  (refine tr_storeW H.get0 rfl (Try.sizeOf48 _) rfl rfl rfl rfl rfl rfl rfl rfl ?_; intro w5 U; have H := H.upd0 U; clear U)
  refine tr_val (ov_assign rfl rfl) rfl rfl rfl ?_
  refine tr_val (ov_assign rfl rfl) rfl rfl rfl ?_
  refine tr_nil (hK2 _ _ (TrC.keep [9, 8, 7, 6, 5, 4, 2] ?_))
  show TrC _ _ _ _ [(9, _), (8, _), (7, _), (6, _), (5, _), (4, _), (2, _)] _ _
  refine tr_seq (fun K3 hK3 => ?_)
  -- region 2: ref.go:71
  refine tr_region ?_
  refine tr_val (ov_fieldAddr rfl Try.underlying48 rfl (Try.sizeOf2 _) (by decide) rfl) rfl rfl rfl ?_
  refine tr_val (ov_load_blk H.get0 rfl (Try.isAgg2 _) rfl rfl rfl) rfl rfl rfl ?_
  refine tr_val (ov_fieldAddr rfl Try.underlying85 rfl (Try.sizeOf2 _) (by decide) rfl) rfl rfl rfl ?_
  (refine tr_store H.get4 rfl (Try.sizeOf2 _) rfl rfl rfl rfl rfl rfl rfl ?_; intro w6 U; have H := H.upd4 U; clear U)
  try simp only [List.set_cons_zero, List.set_cons_succ, Nat.zero_add] at H
  refine tr_nil (hK3 _ _ (TrC.keep [9, 8, 7, 6, 5, 4, 2] ?_))
  show TrC _ _ _ _ [(9, _), (8, _), (7, _), (6, _), (5, _), (4, _), (2, _)] _ _
  refine tr_seq (fun K4 hK4 => ?_)
  -- region 3: ref.go:72
  refine tr_region ?_
  refine tr_val (ov_fieldAddr rfl Try.underlying48 rfl (Try.sizeOf46 _) (by decide) rfl) rfl rfl rfl ?_
  refine tr_val (ov_load_blk H.get0 rfl (Try.isAgg46 _) rfl rfl rfl) rfl rfl rfl ?_
  refine tr_val (ov_fieldAddr rfl Try.underlying85 rfl (Try.sizeOf46 _) (by decide) rfl) rfl rfl rfl ?_
  (refine tr_store H.get4 rfl (Try.sizeOf46 _) rfl rfl rfl rfl rfl rfl rfl ?_; intro w7 U; have H := H.upd4 U; clear U)
  try simp only [List.set_cons_zero, List.set_cons_succ, Nat.zero_add] at H
  refine tr_nil (hK4 _ _ (TrC.keep [9, 8, 7, 6, 5, 4, 2] ?_))
  show TrC _ _ _ _ [(9, _), (8, _), (7, _), (6, _), (5, _), (4, _), (2, _)] _ _
  refine tr_seq (fun K5 hK5 => ?_)
  -- region 4: ref.go:73
  refine tr_region ?_
  refine tr_val (ov_load_blkN H.get4 rfl (Try.isAgg85 _) (Try.sizeOf85 _) rfl rfl rfl) rfl rfl rfl ?_
  refine tr_val (ov_move rfl rfl) rfl rfl rfl ?_
  refine tr_val (ov_move rfl rfl) rfl rfl rfl ?_
  (refine tr_storeW H.get3 rfl (Try.sizeOf85 _) rfl rfl rfl rfl rfl rfl rfl rfl ?_; intro w8 U; have H := H.upd3 U; clear U)
  refine tr_val (ov_assign rfl rfl) rfl rfl rfl ?_
  refine tr_val (ov_assign rfl rfl) rfl rfl rfl ?_
  refine tr_nil (hK5 _ _ (TrC.keep [6, 5, 9, 8, 7, 4, 2] ?_))
  show TrC _ _ _ _ [(6, _), (5, _), (9, _), (8, _), (7, _), (4, _), (2, _)] _ _
  refine tr_ret (post_ret3 (.inr rfl) rfl (by exact ⟨_, rfl, res_blkN H.get3 (Try.isAgg85 _) (Try.sizeOf85 _) rfl rfl⟩) rfl rfl ?_)
  exact ⟨Af, cf, A1, c1, bo, rfl, hbo, hc1, H.drop0.drop2.drop2⟩

/-! curfew/curfewref13.Set -/
set_option maxRecDepth 20000 in
theorem SetR13_r (B : Option Addr) (c : Nat) (X : List Thing) (now last : Int) (w : World) (hl : X.length ≤ 256) (hla : 0 ≤ last ∧ last ≤ 1152921504606846976) (hc : (zR X).length ≤ c) (hR : Rd w B 4 ((zR X).map encRThing)) (id due : Int) : Does Try.prog 76 #[.agg #[.int .i64 now, .int .u64 last, .slice B ((zR X)).length c], .int .u64 id, .int .i64 due] w (fun v w' => ∃ A' c' bo, v = .tuple #[.agg #[.int .i64 now, .int .u64 (setN last X id due), .slice A' ((zR (setS last X id due))).length c'], .int .u64 (setR last X id due), .int .i64 (setE last X id due)] ∧ (bo = false → A' = B ∧ zR (setS last X id due) = (zR X)) ∧ (zR (setS last X id due)).length ≤ c' ∧ SH w noBlocks [optV bo A' (zR (setS last X id due))] w') := by
  have hzl := zR_len X
  have hdl := zR_len (dropT id X)
  have hdl2 := dropT_le (id := id) (X := X)
  have hix := isSome_idx id X
  refine does_enter3 Try.func76 rfl Try.ntmps76 rfl ?_
  have H := SH.start w noBlocks
  refine tr_seq (fun K1 hK1 => ?_)
  -- region 0: ref.go:52
  refine tr_region ?_
  refine tr_box H rfl rfl rfl rfl rfl rfl ?_
  intro b1 w1 hb1 H
  refine tr_alloc H rfl (Try.zeroValue85 _) rfl rfl rfl rfl ?_
  intro b2 w2 hb2 H
  refine tr_val (ov_assign rfl rfl) rfl rfl rfl ?_
  refine tr_val (ov_assign rfl rfl) rfl rfl rfl ?_
  refine tr_nil (hK1 _ _ (TrC.keep [8, 7, 6, 3, 1, 2] ?_))
  show TrC _ _ _ _ [(8, _), (7, _), (6, _), (3, _), (1, _), (2, _)] _ _
  refine tr_seq (fun K2 hK2 => ?_)
  refine tr_seq (fun K3 hK3 => ?_)
  -- region 1: ref.go:53
  refine tr_region ?_
  refine tr_val (ov_move rfl rfl) rfl rfl rfl ?_
  refine tr_val (ov_lss rfl rfl rfl) rfl rfl rfl ?_
  refine tr_val (ov_move rfl rfl) rfl rfl rfl ?_
  refine tr_split (t := 11) rfl (fun s11 => ?_) (fun s11 => ?_)
  · skip
    refine tr_pass rfl rfl rfl ?_
    refine tr_pass rfl rfl rfl ?_
    refine tr_val (ov_pick (vb := undef) rfl rfl rfl rfl) rfl rfl rfl ?_
    refine tr_nil (hK3 _ _ (TrC.keep [14, 8, 7, 6, 3, 1, 2] ?_))
    show TrC _ _ _ _ [(14, _), (8, _), (7, _), (6, _), (3, _), (1, _), (2, _)] _ _
    refine tr_cond_t rfl rfl ?_
    refine tr_seq (fun K4 hK4 => ?_)
    -- region 2: ref.go:54
    refine tr_region ?_
    refine tr_val (ov_load_blkN H.get1 rfl (Try.isAgg85 _) (Try.sizeOf85 _) rfl rfl rfl) rfl rfl rfl ?_
    (refine tr_storeW H.get0 rfl (Try.sizeOf85 _) rfl rfl rfl rfl rfl rfl rfl rfl ?_; intro w3 U; have H := H.upd0 U; clear U)
    refine tr_val (ov_assign rfl rfl) rfl rfl rfl ?_
    refine tr_val (ov_assign rfl rfl) rfl rfl rfl ?_
    refine tr_nil (hK4 _ _ (TrC.keep [8, 7, 14, 6, 3, 1, 2] ?_))
    show TrC _ _ _ _ [(8, _), (7, _), (14, _), (6, _), (3, _), (1, _), (2, _)] _ _
    refine tr_ret (post_ret3 (.inr rfl) rfl (by exact ⟨_, rfl, res_blkN H.get0 (Try.isAgg85 _) (Try.sizeOf85 _) rfl rfl⟩) rfl rfl ?_)
    (have he : setE last X id due = 2 := (by unfold setE; rw [if_pos (by omega)]); have hn : ¬ setE last X id due = 0 := (by rw [he]; decide); unfold setN setR; rw [if_neg hn, if_neg hn, setS_no hn, he]; exact ⟨B, c, false, rfl, fun _ => ⟨rfl, rfl⟩, hc, H.drop0.drop0.optNil _ _⟩)
  · skip
    refine tr_val (ov_move rfl rfl) rfl rfl rfl ?_
    refine tr_val (ov_gtr rfl rfl rfl) rfl rfl rfl ?_
    refine tr_val (ov_pick_f (va := undef) rfl rfl rfl rfl) rfl rfl rfl ?_
    refine tr_nil (hK3 _ _ (TrC.keep [14, 8, 7, 6, 3, 1, 2] ?_))
    show TrC _ _ _ _ [(14, _), (8, _), (7, _), (6, _), (3, _), (1, _), (2, _)] _ _
    refine tr_cond rfl (fun c14 => ?_) (fun c14 => ?_)
    · skip
      refine tr_seq (fun K5 hK5 => ?_)
      -- region 2: ref.go:54
      refine tr_region ?_
      refine tr_val (ov_load_blkN H.get1 rfl (Try.isAgg85 _) (Try.sizeOf85 _) rfl rfl rfl) rfl rfl rfl ?_
      (refine tr_storeW H.get0 rfl (Try.sizeOf85 _) rfl rfl rfl rfl rfl rfl rfl rfl ?_; intro w4 U; have H := H.upd0 U; clear U)
      refine tr_val (ov_assign rfl rfl) rfl rfl rfl ?_
      refine tr_val (ov_assign rfl rfl) rfl rfl rfl ?_
      refine tr_nil (hK5 _ _ (TrC.keep [8, 7, 14, 6, 3, 1, 2] ?_))
      show TrC _ _ _ _ [(8, _), (7, _), (14, _), (6, _), (3, _), (1, _), (2, _)] _ _
      refine tr_ret (post_ret3 (.inr rfl) rfl (by exact ⟨_, rfl, res_blkN H.get0 (Try.isAgg85 _) (Try.sizeOf85 _) rfl rfl⟩) rfl rfl ?_)
      (have he : setE last X id due = 2 := (by unfold setE; rw [if_pos (by omega)]); have hn : ¬ setE last X id due = 0 := (by rw [he]; decide); unfold setN setR; rw [if_neg hn, if_neg hn, setS_no hn, he]; exact ⟨B, c, false, rfl, fun _ => ⟨rfl, rfl⟩, hc, H.drop0.drop0.optNil _ _⟩)
    · skip
      refine tr_skip (hK2 _ _ (TrC.keep [14, 8, 7, 6, 3, 1, 2] ?_))
      show TrC _ _ _ _ [(14, _), (8, _), (7, _), (6, _), (3, _), (1, _), (2, _)] _ _
      refine tr_seq (fun K6 hK6 => ?_)
      refine tr_seq (fun K7 hK7 => ?_)
      -- region 3: ref.go:56
      refine tr_region ?_
      refine tr_val (ov_fieldAddr rfl Try.underlying85 rfl (Try.sizeOf28 _) (by decide) rfl) rfl rfl rfl ?_
      refine tr_val (ov_load_blk H.get1 rfl (Try.isAgg28 _) rfl rfl rfl) rfl rfl rfl ?_
      refine tr_val (ov_geq rfl rfl rfl) rfl rfl rfl ?_
      refine tr_nil (hK7 _ _ (TrC.keep [18, 14, 8, 7, 6, 3, 1, 2] ?_))
      show TrC _ _ _ _ [(18, _), (14, _), (8, _), (7, _), (6, _), (3, _), (1, _), (2, _)] _ _
      refine tr_cond rfl (fun c18 => ?_) (fun c18 => ?_)
      · skip
        refine tr_seq (fun K8 hK8 => ?_)
        -- region 4: ref.go:57
        refine tr_region ?_
        refine tr_val (ov_load_blkN H.get1 rfl (Try.isAgg85 _) (Try.sizeOf85 _) rfl rfl rfl) rfl rfl rfl ?_
        (refine tr_storeW H.get0 rfl (Try.sizeOf85 _) rfl rfl rfl rfl rfl rfl rfl rfl ?_; intro w5 U; have H := H.upd0 U; clear U)
        refine tr_val (ov_assign rfl rfl) rfl rfl rfl ?_
        refine tr_val (ov_assign rfl rfl) rfl rfl rfl ?_
        refine tr_nil (hK8 _ _ (TrC.keep [8, 7, 18, 14, 6, 3, 1, 2] ?_))
        show TrC _ _ _ _ [(8, _), (7, _), (18, _), (14, _), (6, _), (3, _), (1, _), (2, _)] _ _
        refine tr_ret (post_ret3 (.inr rfl) rfl (by exact ⟨_, rfl, res_blkN H.get0 (Try.isAgg85 _) (Try.sizeOf85 _) rfl rfl⟩) rfl rfl ?_)
        (have he : setE last X id due = 10 := (by unfold setE; rw [if_neg (by omega), if_pos (by omega)]); have hn : ¬ setE last X id due = 0 := (by rw [he]; decide); unfold setN setR; rw [if_neg hn, if_neg hn, setS_no hn, he]; exact ⟨B, c, false, rfl, fun _ => ⟨rfl, rfl⟩, hc, H.drop0.drop0.optNil _ _⟩)
      · skip
        refine tr_skip (hK6 _ _ (TrC.keep [18, 14, 8, 7, 6, 3, 1, 2] ?_))
        show TrC _ _ _ _ [(18, _), (14, _), (8, _), (7, _), (6, _), (3, _), (1, _), (2, _)] _ _
        refine tr_seq (fun K9 hK9 => ?_)
        refine tr_seq (fun K10 hK10 => ?_)
        -- region 5: ref.go:59
        refine tr_region ?_
        refine tr_val (ov_fieldAddr rfl Try.underlying85 rfl (Try.sizeOf46 _) (by decide) rfl) rfl rfl rfl ?_
        refine tr_val (ov_load_blk H.get1 rfl (Try.isAgg46 _) rfl rfl rfl) rfl rfl rfl ?_
        refine tr_val (ov_len rfl rfl Try.underlying46 rfl) rfl rfl rfl ?_
        refine tr_val (ov_geq rfl rfl rfl) rfl rfl rfl ?_
        refine tr_val (ov_move rfl rfl) rfl rfl rfl ?_
        refine tr_split (t := 24) rfl (fun s24 => ?_) (fun s24 => ?_)
        · skip
          refine tr_val (ov_fieldAddr rfl Try.underlying85 rfl (Try.sizeOf46 _) (by decide) rfl) rfl rfl rfl ?_
          refine tr_val (ov_load_blk H.get1 rfl (Try.isAgg46 _) rfl rfl rfl) rfl rfl rfl ?_
          refine tr_val (ov_move rfl rfl) rfl rfl rfl ?_
          refine tr_call (FindR_c B c (zR X) _ (H.rd0 hR) (by omega) id) rfl rfl rfl Try.call67 rfl rfl rfl ?_
          rintro _ w6 ⟨rfl, HC⟩
          have H := H.call0n HC
          refine tr_val (ov_lss rfl rfl rfl) rfl rfl rfl ?_
          refine tr_val (ov_pick (vb := undef) rfl rfl rfl rfl) rfl rfl rfl ?_
          refine tr_nil (hK10 _ _ (TrC.keep [30, 18, 14, 8, 7, 6, 3, 1, 2] ?_))
          show TrC _ _ _ _ [(30, _), (18, _), (14, _), (8, _), (7, _), (6, _), (3, _), (1, _), (2, _)] _ _
          refine tr_cond rfl (fun c30 => ?_) (fun c30 => ?_)
          · skip
            refine tr_seq (fun K11 hK11 => ?_)
            -- region 6: ref.go:60
            refine tr_region ?_
            refine tr_val (ov_load_blkN H.get1 rfl (Try.isAgg85 _) (Try.sizeOf85 _) rfl rfl rfl) rfl rfl rfl ?_
            (refine tr_storeW H.get0 rfl (Try.sizeOf85 _) rfl rfl rfl rfl rfl rfl rfl rfl ?_; intro w7 U; have H := H.upd0 U; clear U)
            refine tr_val (ov_assign rfl rfl) rfl rfl rfl ?_
            refine tr_val (ov_assign rfl rfl) rfl rfl rfl ?_
            refine tr_nil (hK11 _ _ (TrC.keep [8, 7, 30, 18, 14, 6, 3, 1, 2] ?_))
            show TrC _ _ _ _ [(8, _), (7, _), (30, _), (18, _), (14, _), (6, _), (3, _), (1, _), (2, _)] _ _
            refine tr_ret (post_ret3 (.inr rfl) rfl (by exact ⟨_, rfl, res_blkN H.get0 (Try.isAgg85 _) (Try.sizeOf85 _) rfl rfl⟩) rfl rfl ?_)
            (have he : setE last X id due = 30 := (by unfold setE; rw [if_neg (by omega), if_neg (by omega), if_pos ⟨by rw [hix]; exact decide_eq_false (by omega), by omega⟩]); have hn : ¬ setE last X id due = 0 := (by rw [he]; decide); unfold setN setR; rw [if_neg hn, if_neg hn, setS_no hn, he]; exact ⟨B, c, false, rfl, fun _ => ⟨rfl, rfl⟩, hc, H.drop0.drop0.optNil _ _⟩)
          · skip
            refine tr_skip (hK9 _ _ (TrC.keep [30, 18, 14, 8, 7, 6, 3, 1, 2] ?_))
            show TrC _ _ _ _ [(30, _), (18, _), (14, _), (8, _), (7, _), (6, _), (3, _), (1, _), (2, _)] _ _
            refine tr_seq (fun K12 hK12 => ?_)
            -- region 7: ref.go:62
            refine tr_region ?_
            refine tr_val (ov_load_blkN H.get1 rfl (Try.isAgg85 _) (Try.sizeOf85 _) rfl rfl rfl) rfl rfl rfl ?_
            refine tr_val (ov_move rfl rfl) rfl rfl rfl ?_
            refine tr_call (ClearR_r B c (zR X) now last _ (by omega) hc (H.rd0 hR) id) rfl rfl rfl Try.call74 rfl rfl rfl ?_
            rintro _ w8 ⟨A1, c1, bo, rfl, hbo, hc1, HC⟩
            have H := H.call0r HC
            rw [dropR_z] at H hc1 hbo ⊢
            refine tr_val (ov_move rfl rfl) rfl rfl rfl ?_
            refine tr_val (ov_extract rfl rfl rfl) rfl rfl rfl ?_
            refine tr_val (ov_extract rfl rfl rfl) rfl rfl rfl ?_
            refine tr_val (ov_extract rfl rfl rfl) rfl rfl rfl ?_
            (refine tr_storeW H.get2 rfl (Try.sizeOf85 _) rfl rfl rfl rfl rfl rfl rfl rfl ?_; intro w9 U; have H := H.upd2 U; clear U)
            refine tr_nil (hK12 _ _ (TrC.keep [30, 18, 14, 8, 7, 6, 3, 1, 2] ?_))
            show TrC _ _ _ _ [(30, _), (18, _), (14, _), (8, _), (7, _), (6, _), (3, _), (1, _), (2, _)] _ _
            refine tr_seq (fun K13 hK13 => ?_)
            -- region 8: ref.go:63
            refine tr_region ?_
            refine tr_val (ov_fieldAddr rfl Try.underlying85 rfl (Try.sizeOf28 _) (by decide) rfl) rfl rfl rfl ?_
            refine tr_val (ov_load_blk H.get2 rfl (Try.isAgg28 _) rfl rfl rfl) rfl rfl rfl ?_
            refine tr_val (ov_add rfl rfl rfl (wu64 (by omega))) rfl rfl rfl ?_
            refine tr_val (ov_fieldAddr rfl Try.underlying85 rfl (Try.sizeOf28 _) (by decide) rfl) rfl rfl rfl ?_
            (refine tr_store H.get2 rfl (Try.sizeOf28 _) rfl rfl rfl rfl rfl rfl rfl ?_; intro w10 U; have H := H.upd2 U; clear U)
            try simp only [List.set_cons_zero, List.set_cons_succ, Nat.zero_add] at H
            refine tr_nil (hK13 _ _ (TrC.keep [30, 18, 14, 8, 7, 6, 3, 1, 2] ?_))
            show TrC _ _ _ _ [(30, _), (18, _), (14, _), (8, _), (7, _), (6, _), (3, _), (1, _), (2, _)] _ _
            refine tr_seq (fun K14 hK14 => ?_)
            -- region 9: ref.go:64
            refine tr_held (fun w' => ∃ x, (blk b1 85 [.int .i64 now, .int .u64 (last + 1), x]).holds w') mixed rfl H ?_
            intro w11 H
            refine th_take 1 rfl (by kernel_rfl) (by kernel_rfl) (by kernel_rfl) ((by exact ⟨_, H.get2⟩)) (fun _ hS => ov_fieldAddr rfl Try.underlying85 rfl (Try.sizeOf46 _) (by decide) rfl) rfl rfl rfl ?_
            refine th_take 4 rfl (by kernel_rfl) (by kernel_rfl) (by kernel_rfl) ((by exact ⟨_, H.get2⟩)) (fun _ hS => ov_move rfl rfl) rfl rfl rfl ?_
            refine th_take 5 rfl (by kernel_rfl) (by kernel_rfl) (by kernel_rfl) ((by exact ⟨_, H.get2⟩)) (fun _ hS => ov_fieldAddr rfl Try.underlying85 rfl (Try.sizeOf28 _) (by decide) rfl) rfl rfl rfl ?_
            refine th_take 6 rfl (by kernel_rfl) (by kernel_rfl) (by kernel_rfl) ((by exact ⟨_, H.get2⟩)) (fun _ hS => (hS.elim fun _ hx => ov_load_blk hx rfl (Try.isAgg28 _) rfl rfl rfl)) rfl rfl rfl ?_
            refine th_take 7 rfl (by kernel_rfl) (by kernel_rfl) (by kernel_rfl) ((by exact ⟨_, H.get2⟩)) (fun _ hS => ov_move rfl rfl) rfl rfl rfl ?_
            refine th_take 8 rfl (by kernel_rfl) (by kernel_rfl) (by kernel_rfl) ((by exact ⟨_, H.get2⟩)) (fun _ hS => ov_build rfl (fun ρ k => bs3 k rfl rfl rfl) (bld59_0_1_2 _ _ _ _)) rfl rfl rfl ?_
            refine th_three 0 2 9 (by kernel_rfl) ?_ ?_ ?_
            · skip
              refine tw_buildSlice0 H rfl rfl Try.underlying46 info59 rfl rfl rfl ?_
              intro b6 w16 hb6 H
              have H := H.upd0 (upd_vec_of_blk (L := ([] : List RThing)) (enc := encRThing) (sz := 4) H.get0 rfl lenRThing (by simp))
              refine ⟨(by exact ⟨_, H.get3⟩), ?_⟩
              refine th_two 2 9 (by kernel_rfl) ?_ ?_
              · skip
                refine tw_val (ov_load_blk H.get3 rfl (Try.isAgg46 _) rfl rfl rfl) rfl ((by exact ⟨_, H.get3⟩)) rfl rfl rfl ?_
                refine th_two 3 9 (by kernel_rfl) ?_ ?_
                · skip
                  (refine tw_append (M := zR (dropT id X)) (L := ([] : List RThing)) H.get0 (opt_rd hbo (H.rd0 hR) H.get1) rfl rfl rfl rfl Try.underlying46 info59 rfl rfl (show Try.t59.bytes = 32 from rfl) rfl (by decide) lenRThing oneRThing (by rw [List.length_nil]; omega) (by rw [List.length_nil]; unfold maxLen; omega) rfl rfl rfl ?_; intro A2 c2 w20 U; have H := H.upd0 U; clear U; rw [List.nil_append] at H ⊢; refine ⟨(by exact ⟨_, H.get3⟩), ?_⟩)
                  refine th_one 9 (by kernel_rfl) ?_
                  refine tw_buildSlice H rfl rfl Try.underlying46 info59 rfl (fun ρ k => bs1 k rfl) (by decide) (by decide) (fill_RThing_1 _ _ _ _) rfl rfl rfl ?_
                  intro b7 w7 hb7 H
                  refine ⟨(by exact ⟨_, H.get4⟩), ?_⟩
                  refine th_one 10 (by kernel_rfl) ?_
                  (refine tw_append (M := [toR ⟨id, last + 1, due⟩ 0]) (L := zR (dropT id X)) H.get1 (rd_blk [toR ⟨id, last + 1, due⟩ 0] H.get0 rfl lenRThing) rfl rfl rfl rfl Try.underlying46 info59 rfl rfl (show Try.t59.bytes = 32 from rfl) rfl (by decide) lenRThing oneRThing (by rw [List.length_singleton]; omega) (by rw [List.length_singleton]; unfold maxLen; omega) rfl rfl rfl ?_; intro A3 c3 w30 U; have H := H.upd1 U; clear U; refine ⟨(by exact ⟨_, H.get4⟩), ?_⟩)
                  refine th_one 11 (by kernel_rfl) ?_
                  refine tw_call (SortedR_c A3 c3 (zR (dropT id X) ++ [toR ⟨id, last + 1, due⟩ 0]) _ (by exact vec_rd H.get1 lenRThing (by decide)) (by simp; omega)) rfl rfl rfl rfl Try.call105 rfl rfl rfl ?_
                  rintro _ w12 ⟨A4, c4, rfl, HC⟩
                  have H := H.call0r HC
                  refine ⟨(by exact ⟨_, H.get5⟩), ?_⟩
                  refine th_take 12 rfl (by kernel_rfl) (by kernel_rfl) (by kernel_rfl) ((by exact ⟨_, H.get5⟩)) (fun _ hS => ov_fieldAddr rfl Try.underlying85 rfl (Try.sizeOf46 _) (by decide) rfl) rfl rfl rfl ?_
                  refine th_one 13 (by kernel_rfl) ?_
                  (refine tw_store H.get5 rfl rfl (Try.sizeOf46 _) rfl rfl rfl rfl rfl rfl rfl ?_; intro w13 U; have H := H.upd5 U; clear U)
                  try simp only [List.set_cons_zero, List.set_cons_succ, Nat.zero_add] at H
                  refine ⟨(by exact ⟨_, H.get5⟩), ?_⟩
                  refine th_done (by kernel_rfl) ?_
                  refine hK14 _ _ (TrC.keep [30, 18, 14, 8, 7, 6, 3, 1, 2] ?_)
                  show TrC _ _ _ _ [(30, _), (18, _), (14, _), (8, _), (7, _), (6, _), (3, _), (1, _), (2, _)] _ _
                  refine tr_seq (fun K15 hK15 => ?_)
                  -- region 10: ref.go:65
                  refine tr_held (fun w' => (blk b1 85 [.int .i64 now, .int .u64 (last + 1), .slice A4 ((sortR (zR (dropT id X) ++ [toR ⟨id, last + 1, due⟩ 0]))).length c4]).holds w') mixed rfl H ?_
                  intro w14 H
                  refine th_take 0 rfl (by kernel_rfl) (by kernel_rfl) (by kernel_rfl) (H.get5) (fun _ hS => ov_load_blkN hS rfl (Try.isAgg85 _) (Try.sizeOf85 _) rfl rfl rfl) rfl rfl rfl ?_
                  refine th_take 1 rfl (by kernel_rfl) (by kernel_rfl) (by kernel_rfl) (H.get5) (fun _ hS => ov_fieldAddr rfl Try.underlying85 rfl (Try.sizeOf28 _) (by decide) rfl) rfl rfl rfl ?_
                  refine th_take 2 rfl (by kernel_rfl) (by kernel_rfl) (by kernel_rfl) (H.get5) (fun _ hS => ov_load_blk hS rfl (Try.isAgg28 _) rfl rfl rfl) rfl rfl rfl ?_
                  refine th_one 3 (by kernel_rfl) ?_
                  (refine tw_storeW H.get4 rfl rfl (Try.sizeOf85 _) rfl rfl rfl rfl rfl rfl rfl rfl ?_; intro w15 U; have H := H.upd4 U; clear U)
                  refine ⟨H.get5, ?_⟩
                  refine th_take 4 rfl (by kernel_rfl) (by kernel_rfl) (by kernel_rfl) (H.get5) (fun _ hS => ov_assign rfl rfl) rfl rfl rfl ?_
                  refine th_take 5 rfl (by kernel_rfl) (by kernel_rfl) (by kernel_rfl) (H.get5) (fun _ hS => ov_assign rfl rfl) rfl rfl rfl ?_
                  refine th_done (by kernel_rfl) ?_
                  refine hK15 _ _ (TrC.keep [8, 7, 30, 18, 14, 6, 3, 1, 2] ?_)
                  show TrC _ _ _ _ [(8, _), (7, _), (30, _), (18, _), (14, _), (6, _), (3, _), (1, _), (2, _)] _ _
                  refine tr_ret (post_ret3 (.inr rfl) rfl (by exact ⟨_, rfl, res_blkN H.get4 (Try.isAgg85 _) (Try.sizeOf85 _) rfl rfl⟩) rfl rfl ?_)
                  (have he : setE last X id due = 0 := (by unfold setE; rw [if_neg (by omega), if_neg (by omega), if_neg (by rw [hix]; simp; omega)]); unfold setN setR; rw [if_pos he, if_pos he, setS_ok he, he]; have H2 := H.drop1.drop1.drop1.drop1.drop1; exact ⟨A4, c4, true, rfl, (fun h => by cases h), vec_len H2.get0, H2.upd0 (upd_rdr_of_vec H2.get0 lenRThing (by decide))⟩)
                · skip
                  refine tw_buildSlice H rfl rfl Try.underlying46 info59 rfl (fun ρ k => bs1 k rfl) (by decide) (by decide) (fill_RThing_1 _ _ _ _) rfl rfl rfl ?_
                  intro b7 w7 hb7 H
                  refine ⟨(by exact ⟨_, H.get4⟩), ?_⟩
                  refine th_one 3 (by kernel_rfl) ?_
                  (refine tw_append (M := zR (dropT id X)) (L := ([] : List RThing)) H.get1 (opt_rd hbo (H.rd0 hR) H.get2) rfl rfl rfl rfl Try.underlying46 info59 rfl rfl (show Try.t59.bytes = 32 from rfl) rfl (by decide) lenRThing oneRThing (by rw [List.length_nil]; omega) (by rw [List.length_nil]; unfold maxLen; omega) rfl rfl rfl ?_; intro A2 c2 w20 U; have H := H.upd1 U; clear U; rw [List.nil_append] at H ⊢; refine ⟨(by exact ⟨_, H.get4⟩), ?_⟩)
                  refine th_one 10 (by kernel_rfl) ?_
                  (refine tw_append (M := [toR ⟨id, last + 1, due⟩ 0]) (L := zR (dropT id X)) H.get1 (rd_blk [toR ⟨id, last + 1, due⟩ 0] H.get0 rfl lenRThing) rfl rfl rfl rfl Try.underlying46 info59 rfl rfl (show Try.t59.bytes = 32 from rfl) rfl (by decide) lenRThing oneRThing (by rw [List.length_singleton]; omega) (by rw [List.length_singleton]; unfold maxLen; omega) rfl rfl rfl ?_; intro A3 c3 w30 U; have H := H.upd1 U; clear U; refine ⟨(by exact ⟨_, H.get4⟩), ?_⟩)
                  refine th_one 11 (by kernel_rfl) ?_
                  refine tw_call (SortedR_c A3 c3 (zR (dropT id X) ++ [toR ⟨id, last + 1, due⟩ 0]) _ (by exact vec_rd H.get1 lenRThing (by decide)) (by simp; omega)) rfl rfl rfl rfl Try.call105 rfl rfl rfl ?_
                  rintro _ w16 ⟨A4, c4, rfl, HC⟩
                  have H := H.call0r HC
                  refine ⟨(by exact ⟨_, H.get5⟩), ?_⟩
                  refine th_take 12 rfl (by kernel_rfl) (by kernel_rfl) (by kernel_rfl) ((by exact ⟨_, H.get5⟩)) (fun _ hS => ov_fieldAddr rfl Try.underlying85 rfl (Try.sizeOf46 _) (by decide) rfl) rfl rfl rfl ?_
                  refine th_one 13 (by kernel_rfl) ?_
                  (refine tw_store H.get5 rfl rfl (Try.sizeOf46 _) rfl rfl rfl rfl rfl rfl rfl ?_; intro w17 U; have H := H.upd5 U; clear U)
                  try simp only [List.set_cons_zero, List.set_cons_succ, Nat.zero_add] at H
                  refine ⟨(by exact ⟨_, H.get5⟩), ?_⟩
                  refine th_done (by kernel_rfl) ?_
                  refine hK14 _ _ (TrC.keep [30, 18, 14, 8, 7, 6, 3, 1, 2] ?_)
                  show TrC _ _ _ _ [(30, _), (18, _), (14, _), (8, _), (7, _), (6, _), (3, _), (1, _), (2, _)] _ _
                  refine tr_seq (fun K16 hK16 => ?_)
                  -- region 10: ref.go:65
                  refine tr_held (fun w' => (blk b1 85 [.int .i64 now, .int .u64 (last + 1), .slice A4 ((sortR (zR (dropT id X) ++ [toR ⟨id, last + 1, due⟩ 0]))).length c4]).holds w') mixed rfl H ?_
                  intro w18 H
                  refine th_take 0 rfl (by kernel_rfl) (by kernel_rfl) (by kernel_rfl) (H.get5) (fun _ hS => ov_load_blkN hS rfl (Try.isAgg85 _) (Try.sizeOf85 _) rfl rfl rfl) rfl rfl rfl ?_
                  refine th_take 1 rfl (by kernel_rfl) (by kernel_rfl) (by kernel_rfl) (H.get5) (fun _ hS => ov_fieldAddr rfl Try.underlying85 rfl (Try.sizeOf28 _) (by decide) rfl) rfl rfl rfl ?_
                  refine th_take 2 rfl (by kernel_rfl) (by kernel_rfl) (by kernel_rfl) (H.get5) (fun _ hS => ov_load_blk hS rfl (Try.isAgg28 _) rfl rfl rfl) rfl rfl rfl ?_
                  refine th_one 3 (by kernel_rfl) ?_
                  (refine tw_storeW H.get4 rfl rfl (Try.sizeOf85 _) rfl rfl rfl rfl rfl rfl rfl rfl ?_; intro w19 U; have H := H.upd4 U; clear U)
                  refine ⟨H.get5, ?_⟩
                  refine th_take 4 rfl (by kernel_rfl) (by kernel_rfl) (by kernel_rfl) (H.get5) (fun _ hS => ov_assign rfl rfl) rfl rfl rfl ?_
                  refine th_take 5 rfl (by kernel_rfl) (by kernel_rfl) (by kernel_rfl) (H.get5) (fun _ hS => ov_assign rfl rfl) rfl rfl rfl ?_
                  refine th_done (by kernel_rfl) ?_
                  refine hK16 _ _ (TrC.keep [8, 7, 30, 18, 14, 6, 3, 1, 2] ?_)
                  show TrC _ _ _ _ [(8, _), (7, _), (30, _), (18, _), (14, _), (6, _), (3, _), (1, _), (2, _)] _ _
                  refine tr_ret (post_ret3 (.inr rfl) rfl (by exact ⟨_, rfl, res_blkN H.get4 (Try.isAgg85 _) (Try.sizeOf85 _) rfl rfl⟩) rfl rfl ?_)
                  (have he : setE last X id due = 0 := (by unfold setE; rw [if_neg (by omega), if_neg (by omega), if_neg (by rw [hix]; simp; omega)]); unfold setN setR; rw [if_pos he, if_pos he, setS_ok he, he]; have H2 := H.drop1.drop1.drop1.drop1.drop1; exact ⟨A4, c4, true, rfl, (fun h => by cases h), vec_len H2.get0, H2.upd0 (upd_rdr_of_vec H2.get0 lenRThing (by decide))⟩)
              · skip
                refine tw_buildSlice H rfl rfl Try.underlying46 info59 rfl (fun ρ k => bs1 k rfl) (by decide) (by decide) (fill_RThing_1 _ _ _ _) rfl rfl rfl ?_
                intro b7 w7 hb7 H
                refine ⟨(by exact ⟨_, H.get4⟩), ?_⟩
                refine th_one 2 (by kernel_rfl) ?_
                refine tw_val (ov_load_blk H.get4 rfl (Try.isAgg46 _) rfl rfl rfl) rfl ((by exact ⟨_, H.get4⟩)) rfl rfl rfl ?_
                refine th_one 3 (by kernel_rfl) ?_
                (refine tw_append (M := zR (dropT id X)) (L := ([] : List RThing)) H.get1 (opt_rd hbo (H.rd0 hR) H.get2) rfl rfl rfl rfl Try.underlying46 info59 rfl rfl (show Try.t59.bytes = 32 from rfl) rfl (by decide) lenRThing oneRThing (by rw [List.length_nil]; omega) (by rw [List.length_nil]; unfold maxLen; omega) rfl rfl rfl ?_; intro A2 c2 w20 U; have H := H.upd1 U; clear U; rw [List.nil_append] at H ⊢; refine ⟨(by exact ⟨_, H.get4⟩), ?_⟩)
                refine th_one 10 (by kernel_rfl) ?_
                (refine tw_append (M := [toR ⟨id, last + 1, due⟩ 0]) (L := zR (dropT id X)) H.get1 (rd_blk [toR ⟨id, last + 1, due⟩ 0] H.get0 rfl lenRThing) rfl rfl rfl rfl Try.underlying46 info59 rfl rfl (show Try.t59.bytes = 32 from rfl) rfl (by decide) lenRThing oneRThing (by rw [List.length_singleton]; omega) (by rw [List.length_singleton]; unfold maxLen; omega) rfl rfl rfl ?_; intro A3 c3 w30 U; have H := H.upd1 U; clear U; refine ⟨(by exact ⟨_, H.get4⟩), ?_⟩)
                refine th_one 11 (by kernel_rfl) ?_
                refine tw_call (SortedR_c A3 c3 (zR (dropT id X) ++ [toR ⟨id, last + 1, due⟩ 0]) _ (by exact vec_rd H.get1 lenRThing (by decide)) (by simp; omega)) rfl rfl rfl rfl Try.call105 rfl rfl rfl ?_
                rintro _ w20 ⟨A4, c4, rfl, HC⟩
                have H := H.call0r HC
                refine ⟨(by exact ⟨_, H.get5⟩), ?_⟩
                refine th_take 12 rfl (by kernel_rfl) (by kernel_rfl) (by kernel_rfl) ((by exact ⟨_, H.get5⟩)) (fun _ hS => ov_fieldAddr rfl Try.underlying85 rfl (Try.sizeOf46 _) (by decide) rfl) rfl rfl rfl ?_
                refine th_one 13 (by kernel_rfl) ?_
                (refine tw_store H.get5 rfl rfl (Try.sizeOf46 _) rfl rfl rfl rfl rfl rfl rfl ?_; intro w21 U; have H := H.upd5 U; clear U)
                try simp only [List.set_cons_zero, List.set_cons_succ, Nat.zero_add] at H
                refine ⟨(by exact ⟨_, H.get5⟩), ?_⟩
                refine th_done (by kernel_rfl) ?_
                refine hK14 _ _ (TrC.keep [30, 18, 14, 8, 7, 6, 3, 1, 2] ?_)
                show TrC _ _ _ _ [(30, _), (18, _), (14, _), (8, _), (7, _), (6, _), (3, _), (1, _), (2, _)] _ _
                refine tr_seq (fun K17 hK17 => ?_)
                -- region 10: ref.go:65
                refine tr_held (fun w' => (blk b1 85 [.int .i64 now, .int .u64 (last + 1), .slice A4 ((sortR (zR (dropT id X) ++ [toR ⟨id, last + 1, due⟩ 0]))).length c4]).holds w') mixed rfl H ?_
                intro w22 H
                refine th_take 0 rfl (by kernel_rfl) (by kernel_rfl) (by kernel_rfl) (H.get5) (fun _ hS => ov_load_blkN hS rfl (Try.isAgg85 _) (Try.sizeOf85 _) rfl rfl rfl) rfl rfl rfl ?_
                refine th_take 1 rfl (by kernel_rfl) (by kernel_rfl) (by kernel_rfl) (H.get5) (fun _ hS => ov_fieldAddr rfl Try.underlying85 rfl (Try.sizeOf28 _) (by decide) rfl) rfl rfl rfl ?_
                refine th_take 2 rfl (by kernel_rfl) (by kernel_rfl) (by kernel_rfl) (H.get5) (fun _ hS => ov_load_blk hS rfl (Try.isAgg28 _) rfl rfl rfl) rfl rfl rfl ?_
                refine th_one 3 (by kernel_rfl) ?_
                (refine tw_storeW H.get4 rfl rfl (Try.sizeOf85 _) rfl rfl rfl rfl rfl rfl rfl rfl ?_; intro w23 U; have H := H.upd4 U; clear U)
                refine ⟨H.get5, ?_⟩
                refine th_take 4 rfl (by kernel_rfl) (by kernel_rfl) (by kernel_rfl) (H.get5) (fun _ hS => ov_assign rfl rfl) rfl rfl rfl ?_
                refine th_take 5 rfl (by kernel_rfl) (by kernel_rfl) (by kernel_rfl) (H.get5) (fun _ hS => ov_assign rfl rfl) rfl rfl rfl ?_
                refine th_done (by kernel_rfl) ?_
                refine hK17 _ _ (TrC.keep [8, 7, 30, 18, 14, 6, 3, 1, 2] ?_)
                show TrC _ _ _ _ [(8, _), (7, _), (30, _), (18, _), (14, _), (6, _), (3, _), (1, _), (2, _)] _ _
                refine tr_ret (post_ret3 (.inr rfl) rfl (by exact ⟨_, rfl, res_blkN H.get4 (Try.isAgg85 _) (Try.sizeOf85 _) rfl rfl⟩) rfl rfl ?_)
                (have he : setE last X id due = 0 := (by unfold setE; rw [if_neg (by omega), if_neg (by omega), if_neg (by rw [hix]; simp; omega)]); unfold setN setR; rw [if_pos he, if_pos he, setS_ok he, he]; have H2 := H.drop1.drop1.drop1.drop1.drop1; exact ⟨A4, c4, true, rfl, (fun h => by cases h), vec_len H2.get0, H2.upd0 (upd_rdr_of_vec H2.get0 lenRThing (by decide))⟩)
            · skip
              refine tw_val (ov_load_blk H.get2 rfl (Try.isAgg46 _) rfl rfl rfl) rfl ((by exact ⟨_, H.get2⟩)) rfl rfl rfl ?_
              refine th_two 0 9 (by kernel_rfl) ?_ ?_
              · skip
                refine tw_buildSlice0 H rfl rfl Try.underlying46 info59 rfl rfl rfl ?_
                intro b6 w16 hb6 H
                have H := H.upd0 (upd_vec_of_blk (L := ([] : List RThing)) (enc := encRThing) (sz := 4) H.get0 rfl lenRThing (by simp))
                refine ⟨(by exact ⟨_, H.get3⟩), ?_⟩
                refine th_two 3 9 (by kernel_rfl) ?_ ?_
                · skip
                  (refine tw_append (M := zR (dropT id X)) (L := ([] : List RThing)) H.get0 (opt_rd hbo (H.rd0 hR) H.get1) rfl rfl rfl rfl Try.underlying46 info59 rfl rfl (show Try.t59.bytes = 32 from rfl) rfl (by decide) lenRThing oneRThing (by rw [List.length_nil]; omega) (by rw [List.length_nil]; unfold maxLen; omega) rfl rfl rfl ?_; intro A2 c2 w20 U; have H := H.upd0 U; clear U; rw [List.nil_append] at H ⊢; refine ⟨(by exact ⟨_, H.get3⟩), ?_⟩)
                  refine th_one 9 (by kernel_rfl) ?_
                  refine tw_buildSlice H rfl rfl Try.underlying46 info59 rfl (fun ρ k => bs1 k rfl) (by decide) (by decide) (fill_RThing_1 _ _ _ _) rfl rfl rfl ?_
                  intro b7 w7 hb7 H
                  refine ⟨(by exact ⟨_, H.get4⟩), ?_⟩
                  refine th_one 10 (by kernel_rfl) ?_
                  (refine tw_append (M := [toR ⟨id, last + 1, due⟩ 0]) (L := zR (dropT id X)) H.get1 (rd_blk [toR ⟨id, last + 1, due⟩ 0] H.get0 rfl lenRThing) rfl rfl rfl rfl Try.underlying46 info59 rfl rfl (show Try.t59.bytes = 32 from rfl) rfl (by decide) lenRThing oneRThing (by rw [List.length_singleton]; omega) (by rw [List.length_singleton]; unfold maxLen; omega) rfl rfl rfl ?_; intro A3 c3 w30 U; have H := H.upd1 U; clear U; refine ⟨(by exact ⟨_, H.get4⟩), ?_⟩)
                  refine th_one 11 (by kernel_rfl) ?_
                  refine tw_call (SortedR_c A3 c3 (zR (dropT id X) ++ [toR ⟨id, last + 1, due⟩ 0]) _ (by exact vec_rd H.get1 lenRThing (by decide)) (by simp; omega)) rfl rfl rfl rfl Try.call105 rfl rfl rfl ?_
                  rintro _ w24 ⟨A4, c4, rfl, HC⟩
                  have H := H.call0r HC
                  refine ⟨(by exact ⟨_, H.get5⟩), ?_⟩
                  refine th_take 12 rfl (by kernel_rfl) (by kernel_rfl) (by kernel_rfl) ((by exact ⟨_, H.get5⟩)) (fun _ hS => ov_fieldAddr rfl Try.underlying85 rfl (Try.sizeOf46 _) (by decide) rfl) rfl rfl rfl ?_
                  refine th_one 13 (by kernel_rfl) ?_
                  (refine tw_store H.get5 rfl rfl (Try.sizeOf46 _) rfl rfl rfl rfl rfl rfl rfl ?_; intro w25 U; have H := H.upd5 U; clear U)
                  try simp only [List.set_cons_zero, List.set_cons_succ, Nat.zero_add] at H
                  refine ⟨(by exact ⟨_, H.get5⟩), ?_⟩
                  refine th_done (by kernel_rfl) ?_
                  refine hK14 _ _ (TrC.keep [30, 18, 14, 8, 7, 6, 3, 1, 2] ?_)
                  show TrC _ _ _ _ [(30, _), (18, _), (14, _), (8, _), (7, _), (6, _), (3, _), (1, _), (2, _)] _ _
                  refine tr_seq (fun K18 hK18 => ?_)
                  -- region 10: ref.go:65
                  refine tr_held (fun w' => (blk b1 85 [.int .i64 now, .int .u64 (last + 1), .slice A4 ((sortR (zR (dropT id X) ++ [toR ⟨id, last + 1, due⟩ 0]))).length c4]).holds w') mixed rfl H ?_
                  intro w26 H
                  refine th_take 0 rfl (by kernel_rfl) (by kernel_rfl) (by kernel_rfl) (H.get5) (fun _ hS => ov_load_blkN hS rfl (Try.isAgg85 _) (Try.sizeOf85 _) rfl rfl rfl) rfl rfl rfl ?_
                  refine th_take 1 rfl (by kernel_rfl) (by kernel_rfl) (by kernel_rfl) (H.get5) (fun _ hS => ov_fieldAddr rfl Try.underlying85 rfl (Try.sizeOf28 _) (by decide) rfl) rfl rfl rfl ?_
                  refine th_take 2 rfl (by kernel_rfl) (by kernel_rfl) (by kernel_rfl) (H.get5) (fun _ hS => ov_load_blk hS rfl (Try.isAgg28 _) rfl rfl rfl) rfl rfl rfl ?_
                  refine th_one 3 (by kernel_rfl) ?_
                  (refine tw_storeW H.get4 rfl rfl (Try.sizeOf85 _) rfl rfl rfl rfl rfl rfl rfl rfl ?_; intro w27 U; have H := H.upd4 U; clear U)
                  refine ⟨H.get5, ?_⟩
                  refine th_take 4 rfl (by kernel_rfl) (by kernel_rfl) (by kernel_rfl) (H.get5) (fun _ hS => ov_assign rfl rfl) rfl rfl rfl ?_
                  refine th_take 5 rfl (by kernel_rfl) (by kernel_rfl) (by kernel_rfl) (H.get5) (fun _ hS => ov_assign rfl rfl) rfl rfl rfl ?_
                  refine th_done (by kernel_rfl) ?_
                  refine hK18 _ _ (TrC.keep [8, 7, 30, 18, 14, 6, 3, 1, 2] ?_)
                  show TrC _ _ _ _ [(8, _), (7, _), (30, _), (18, _), (14, _), (6, _), (3, _), (1, _), (2, _)] _ _
                  refine tr_ret (post_ret3 (.inr rfl) rfl (by exact ⟨_, rfl, res_blkN H.get4 (Try.isAgg85 _) (Try.sizeOf85 _) rfl rfl⟩) rfl rfl ?_)
                  (have he : setE last X id due = 0 := (by unfold setE; rw [if_neg (by omega), if_neg (by omega), if_neg (by rw [hix]; simp; omega)]); unfold setN setR; rw [if_pos he, if_pos he, setS_ok he, he]; have H2 := H.drop1.drop1.drop1.drop1.drop1; exact ⟨A4, c4, true, rfl, (fun h => by cases h), vec_len H2.get0, H2.upd0 (upd_rdr_of_vec H2.get0 lenRThing (by decide))⟩)
                · skip
                  refine tw_buildSlice H rfl rfl Try.underlying46 info59 rfl (fun ρ k => bs1 k rfl) (by decide) (by decide) (fill_RThing_1 _ _ _ _) rfl rfl rfl ?_
                  intro b7 w7 hb7 H
                  refine ⟨(by exact ⟨_, H.get4⟩), ?_⟩
                  refine th_one 3 (by kernel_rfl) ?_
                  (refine tw_append (M := zR (dropT id X)) (L := ([] : List RThing)) H.get1 (opt_rd hbo (H.rd0 hR) H.get2) rfl rfl rfl rfl Try.underlying46 info59 rfl rfl (show Try.t59.bytes = 32 from rfl) rfl (by decide) lenRThing oneRThing (by rw [List.length_nil]; omega) (by rw [List.length_nil]; unfold maxLen; omega) rfl rfl rfl ?_; intro A2 c2 w20 U; have H := H.upd1 U; clear U; rw [List.nil_append] at H ⊢; refine ⟨(by exact ⟨_, H.get4⟩), ?_⟩)
                  refine th_one 10 (by kernel_rfl) ?_
                  (refine tw_append (M := [toR ⟨id, last + 1, due⟩ 0]) (L := zR (dropT id X)) H.get1 (rd_blk [toR ⟨id, last + 1, due⟩ 0] H.get0 rfl lenRThing) rfl rfl rfl rfl Try.underlying46 info59 rfl rfl (show Try.t59.bytes = 32 from rfl) rfl (by decide) lenRThing oneRThing (by rw [List.length_singleton]; omega) (by rw [List.length_singleton]; unfold maxLen; omega) rfl rfl rfl ?_; intro A3 c3 w30 U; have H := H.upd1 U; clear U; refine ⟨(by exact ⟨_, H.get4⟩), ?_⟩)
                  refine th_one 11 (by kernel_rfl) ?_
                  refine tw_call (SortedR_c A3 c3 (zR (dropT id X) ++ [toR ⟨id, last + 1, due⟩ 0]) _ (by exact vec_rd H.get1 lenRThing (by decide)) (by simp; omega)) rfl rfl rfl rfl Try.call105 rfl rfl rfl ?_
                  rintro _ w28 ⟨A4, c4, rfl, HC⟩
                  have H := H.call0r HC
                  refine ⟨(by exact ⟨_, H.get5⟩), ?_⟩
                  refine th_take 12 rfl (by kernel_rfl) (by kernel_rfl) (by kernel_rfl) ((by exact ⟨_, H.get5⟩)) (fun _ hS => ov_fieldAddr rfl Try.underlying85 rfl (Try.sizeOf46 _) (by decide) rfl) rfl rfl rfl ?_
                  refine th_one 13 (by kernel_rfl) ?_
                  (refine tw_store H.get5 rfl rfl (Try.sizeOf46 _) rfl rfl rfl rfl rfl rfl rfl ?_; intro w29 U; have H := H.upd5 U; clear U)
                  try simp only [List.set_cons_zero, List.set_cons_succ, Nat.zero_add] at H
                  refine ⟨(by exact ⟨_, H.get5⟩), ?_⟩
                  refine th_done (by kernel_rfl) ?_
                  refine hK14 _ _ (TrC.keep [30, 18, 14, 8, 7, 6, 3, 1, 2] ?_)
                  show TrC _ _ _ _ [(30, _), (18, _), (14, _), (8, _), (7, _), (6, _), (3, _), (1, _), (2, _)] _ _
                  refine tr_seq (fun K19 hK19 => ?_)
                  -- region 10: ref.go:65
                  refine tr_held (fun w' => (blk b1 85 [.int .i64 now, .int .u64 (last + 1), .slice A4 ((sortR (zR (dropT id X) ++ [toR ⟨id, last + 1, due⟩ 0]))).length c4]).holds w') mixed rfl H ?_
                  intro w30 H
                  refine th_take 0 rfl (by kernel_rfl) (by kernel_rfl) (by kernel_rfl) (H.get5) (fun _ hS => ov_load_blkN hS rfl (Try.isAgg85 _) (Try.sizeOf85 _) rfl rfl rfl) rfl rfl rfl ?_
                  refine th_take 1 rfl (by kernel_rfl) (by kernel_rfl) (by kernel_rfl) (H.get5) (fun _ hS => ov_fieldAddr rfl Try.underlying85 rfl (Try.sizeOf28 _) (by decide) rfl) rfl rfl rfl ?_
                  refine th_take 2 rfl (by kernel_rfl) (by kernel_rfl) (by kernel_rfl) (H.get5) (fun _ hS => ov_load_blk hS rfl (Try.isAgg28 _) rfl rfl rfl) rfl rfl rfl ?_
                  refine th_one 3 (by kernel_rfl) ?_
                  (refine tw_storeW H.get4 rfl rfl (Try.sizeOf85 _) rfl rfl rfl rfl rfl rfl rfl rfl ?_; intro w31 U; have H := H.upd4 U; clear U)
                  refine ⟨H.get5, ?_⟩
                  refine th_take 4 rfl (by kernel_rfl) (by kernel_rfl) (by kernel_rfl) (H.get5) (fun _ hS => ov_assign rfl rfl) rfl rfl rfl ?_
                  refine th_take 5 rfl (by kernel_rfl) (by kernel_rfl) (by kernel_rfl) (H.get5) (fun _ hS => ov_assign rfl rfl) rfl rfl rfl ?_
                  refine th_done (by kernel_rfl) ?_
                  refine hK19 _ _ (TrC.keep [8, 7, 30, 18, 14, 6, 3, 1, 2] ?_)
                  show TrC _ _ _ _ [(8, _), (7, _), (30, _), (18, _), (14, _), (6, _), (3, _), (1, _), (2, _)] _ _
                  refine tr_ret (post_ret3 (.inr rfl) rfl (by exact ⟨_, rfl, res_blkN H.get4 (Try.isAgg85 _) (Try.sizeOf85 _) rfl rfl⟩) rfl rfl ?_)
                  (have he : setE last X id due = 0 := (by unfold setE; rw [if_neg (by omega), if_neg (by omega), if_neg (by rw [hix]; simp; omega)]); unfold setN setR; rw [if_pos he, if_pos he, setS_ok he, he]; have H2 := H.drop1.drop1.drop1.drop1.drop1; exact ⟨A4, c4, true, rfl, (fun h => by cases h), vec_len H2.get0, H2.upd0 (upd_rdr_of_vec H2.get0 lenRThing (by decide))⟩)
              · skip
                refine tw_buildSlice H rfl rfl Try.underlying46 info59 rfl (fun ρ k => bs1 k rfl) (by decide) (by decide) (fill_RThing_1 _ _ _ _) rfl rfl rfl ?_
                intro b7 w7 hb7 H
                refine ⟨(by exact ⟨_, H.get3⟩), ?_⟩
                refine th_one 0 (by kernel_rfl) ?_
                refine tw_buildSlice0 H rfl rfl Try.underlying46 info59 rfl rfl rfl ?_
                intro b6 w16 hb6 H
                have H := H.upd0 (upd_vec_of_blk (L := ([] : List RThing)) (enc := encRThing) (sz := 4) H.get0 rfl lenRThing (by simp))
                refine ⟨(by exact ⟨_, H.get4⟩), ?_⟩
                refine th_one 3 (by kernel_rfl) ?_
                (refine tw_append (M := zR (dropT id X)) (L := ([] : List RThing)) H.get0 (opt_rd hbo (H.rd0 hR) H.get2) rfl rfl rfl rfl Try.underlying46 info59 rfl rfl (show Try.t59.bytes = 32 from rfl) rfl (by decide) lenRThing oneRThing (by rw [List.length_nil]; omega) (by rw [List.length_nil]; unfold maxLen; omega) rfl rfl rfl ?_; intro A2 c2 w20 U; have H := H.upd0 U; clear U; rw [List.nil_append] at H ⊢; refine ⟨(by exact ⟨_, H.get4⟩), ?_⟩)
                refine th_one 10 (by kernel_rfl) ?_
                (refine tw_append (M := [toR ⟨id, last + 1, due⟩ 0]) (L := zR (dropT id X)) H.get0 (rd_blk [toR ⟨id, last + 1, due⟩ 0] H.get1 rfl lenRThing) rfl rfl rfl rfl Try.underlying46 info59 rfl rfl (show Try.t59.bytes = 32 from rfl) rfl (by decide) lenRThing oneRThing (by rw [List.length_singleton]; omega) (by rw [List.length_singleton]; unfold maxLen; omega) rfl rfl rfl ?_; intro A3 c3 w30 U; have H := H.upd0 U; clear U; refine ⟨(by exact ⟨_, H.get4⟩), ?_⟩)
                refine th_one 11 (by kernel_rfl) ?_
                refine tw_call (SortedR_c A3 c3 (zR (dropT id X) ++ [toR ⟨id, last + 1, due⟩ 0]) _ (by exact vec_rd H.get0 lenRThing (by decide)) (by simp; omega)) rfl rfl rfl rfl Try.call105 rfl rfl rfl ?_
                rintro _ w32 ⟨A4, c4, rfl, HC⟩
                have H := H.call0r HC
                refine ⟨(by exact ⟨_, H.get5⟩), ?_⟩
                refine th_take 12 rfl (by kernel_rfl) (by kernel_rfl) (by kernel_rfl) ((by exact ⟨_, H.get5⟩)) (fun _ hS => ov_fieldAddr rfl Try.underlying85 rfl (Try.sizeOf46 _) (by decide) rfl) rfl rfl rfl ?_
                refine th_one 13 (by kernel_rfl) ?_
                (refine tw_store H.get5 rfl rfl (Try.sizeOf46 _) rfl rfl rfl rfl rfl rfl rfl ?_; intro w33 U; have H := H.upd5 U; clear U)
                try simp only [List.set_cons_zero, List.set_cons_succ, Nat.zero_add] at H
                refine ⟨(by exact ⟨_, H.get5⟩), ?_⟩
                refine th_done (by kernel_rfl) ?_
                refine hK14 _ _ (TrC.keep [30, 18, 14, 8, 7, 6, 3, 1, 2] ?_)
                show TrC _ _ _ _ [(30, _), (18, _), (14, _), (8, _), (7, _), (6, _), (3, _), (1, _), (2, _)] _ _
                refine tr_seq (fun K20 hK20 => ?_)
                -- region 10: ref.go:65
                refine tr_held (fun w' => (blk b1 85 [.int .i64 now, .int .u64 (last + 1), .slice A4 ((sortR (zR (dropT id X) ++ [toR ⟨id, last + 1, due⟩ 0]))).length c4]).holds w') mixed rfl H ?_
                intro w34 H
                refine th_take 0 rfl (by kernel_rfl) (by kernel_rfl) (by kernel_rfl) (H.get5) (fun _ hS => ov_load_blkN hS rfl (Try.isAgg85 _) (Try.sizeOf85 _) rfl rfl rfl) rfl rfl rfl ?_
                refine th_take 1 rfl (by kernel_rfl) (by kernel_rfl) (by kernel_rfl) (H.get5) (fun _ hS => ov_fieldAddr rfl Try.underlying85 rfl (Try.sizeOf28 _) (by decide) rfl) rfl rfl rfl ?_
                refine th_take 2 rfl (by kernel_rfl) (by kernel_rfl) (by kernel_rfl) (H.get5) (fun _ hS => ov_load_blk hS rfl (Try.isAgg28 _) rfl rfl rfl) rfl rfl rfl ?_
                refine th_one 3 (by kernel_rfl) ?_
                (refine tw_storeW H.get4 rfl rfl (Try.sizeOf85 _) rfl rfl rfl rfl rfl rfl rfl rfl ?_; intro w35 U; have H := H.upd4 U; clear U)
                refine ⟨H.get5, ?_⟩
                refine th_take 4 rfl (by kernel_rfl) (by kernel_rfl) (by kernel_rfl) (H.get5) (fun _ hS => ov_assign rfl rfl) rfl rfl rfl ?_
                refine th_take 5 rfl (by kernel_rfl) (by kernel_rfl) (by kernel_rfl) (H.get5) (fun _ hS => ov_assign rfl rfl) rfl rfl rfl ?_
                refine th_done (by kernel_rfl) ?_
                refine hK20 _ _ (TrC.keep [8, 7, 30, 18, 14, 6, 3, 1, 2] ?_)
                show TrC _ _ _ _ [(8, _), (7, _), (30, _), (18, _), (14, _), (6, _), (3, _), (1, _), (2, _)] _ _
                refine tr_ret (post_ret3 (.inr rfl) rfl (by exact ⟨_, rfl, res_blkN H.get4 (Try.isAgg85 _) (Try.sizeOf85 _) rfl rfl⟩) rfl rfl ?_)
                (have he : setE last X id due = 0 := (by unfold setE; rw [if_neg (by omega), if_neg (by omega), if_neg (by rw [hix]; simp; omega)]); unfold setN setR; rw [if_pos he, if_pos he, setS_ok he, he]; have H2 := H.drop1.drop1.drop1.drop1.drop1; exact ⟨A4, c4, true, rfl, (fun h => by cases h), vec_len H2.get0, H2.upd0 (upd_rdr_of_vec H2.get0 lenRThing (by decide))⟩)
            · skip
              refine tw_buildSlice H rfl rfl Try.underlying46 info59 rfl (fun ρ k => bs1 k rfl) (by decide) (by decide) (fill_RThing_1 _ _ _ _) rfl rfl rfl ?_
              intro b7 w7 hb7 H
              refine ⟨(by exact ⟨_, H.get3⟩), ?_⟩
              refine th_two 0 2 (by kernel_rfl) ?_ ?_
              · skip
                refine tw_buildSlice0 H rfl rfl Try.underlying46 info59 rfl rfl rfl ?_
                intro b6 w16 hb6 H
                have H := H.upd0 (upd_vec_of_blk (L := ([] : List RThing)) (enc := encRThing) (sz := 4) H.get0 rfl lenRThing (by simp))
                refine ⟨(by exact ⟨_, H.get4⟩), ?_⟩
                refine th_one 2 (by kernel_rfl) ?_
                refine tw_val (ov_load_blk H.get4 rfl (Try.isAgg46 _) rfl rfl rfl) rfl ((by exact ⟨_, H.get4⟩)) rfl rfl rfl ?_
                refine th_one 3 (by kernel_rfl) ?_
                (refine tw_append (M := zR (dropT id X)) (L := ([] : List RThing)) H.get0 (opt_rd hbo (H.rd0 hR) H.get2) rfl rfl rfl rfl Try.underlying46 info59 rfl rfl (show Try.t59.bytes = 32 from rfl) rfl (by decide) lenRThing oneRThing (by rw [List.length_nil]; omega) (by rw [List.length_nil]; unfold maxLen; omega) rfl rfl rfl ?_; intro A2 c2 w20 U; have H := H.upd0 U; clear U; rw [List.nil_append] at H ⊢; refine ⟨(by exact ⟨_, H.get4⟩), ?_⟩)
                refine th_one 10 (by kernel_rfl) ?_
                (refine tw_append (M := [toR ⟨id, last + 1, due⟩ 0]) (L := zR (dropT id X)) H.get0 (rd_blk [toR ⟨id, last + 1, due⟩ 0] H.get1 rfl lenRThing) rfl rfl rfl rfl Try.underlying46 info59 rfl rfl (show Try.t59.bytes = 32 from rfl) rfl (by decide) lenRThing oneRThing (by rw [List.length_singleton]; omega) (by rw [List.length_singleton]; unfold maxLen; omega) rfl rfl rfl ?_; intro A3 c3 w30 U; have H := H.upd0 U; clear U; refine ⟨(by exact ⟨_, H.get4⟩), ?_⟩)
                refine th_one 11 (by kernel_rfl) ?_
                refine tw_call (SortedR_c A3 c3 (zR (dropT id X) ++ [toR ⟨id, last + 1, due⟩ 0]) _ (by exact vec_rd H.get0 lenRThing (by decide)) (by simp; omega)) rfl rfl rfl rfl Try.call105 rfl rfl rfl ?_
                rintro _ w36 ⟨A4, c4, rfl, HC⟩
                have H := H.call0r HC
                refine ⟨(by exact ⟨_, H.get5⟩), ?_⟩
                refine th_take 12 rfl (by kernel_rfl) (by kernel_rfl) (by kernel_rfl) ((by exact ⟨_, H.get5⟩)) (fun _ hS => ov_fieldAddr rfl Try.underlying85 rfl (Try.sizeOf46 _) (by decide) rfl) rfl rfl rfl ?_
                refine th_one 13 (by kernel_rfl) ?_
                (refine tw_store H.get5 rfl rfl (Try.sizeOf46 _) rfl rfl rfl rfl rfl rfl rfl ?_; intro w37 U; have H := H.upd5 U; clear U)
                try simp only [List.set_cons_zero, List.set_cons_succ, Nat.zero_add] at H
                refine ⟨(by exact ⟨_, H.get5⟩), ?_⟩
                refine th_done (by kernel_rfl) ?_
                refine hK14 _ _ (TrC.keep [30, 18, 14, 8, 7, 6, 3, 1, 2] ?_)
                show TrC _ _ _ _ [(30, _), (18, _), (14, _), (8, _), (7, _), (6, _), (3, _), (1, _), (2, _)] _ _
                refine tr_seq (fun K21 hK21 => ?_)
                -- region 10: ref.go:65
                refine tr_held (fun w' => (blk b1 85 [.int .i64 now, .int .u64 (last + 1), .slice A4 ((sortR (zR (dropT id X) ++ [toR ⟨id, last + 1, due⟩ 0]))).length c4]).holds w') mixed rfl H ?_
                intro w38 H
                refine th_take 0 rfl (by kernel_rfl) (by kernel_rfl) (by kernel_rfl) (H.get5) (fun _ hS => ov_load_blkN hS rfl (Try.isAgg85 _) (Try.sizeOf85 _) rfl rfl rfl) rfl rfl rfl ?_
                refine th_take 1 rfl (by kernel_rfl) (by kernel_rfl) (by kernel_rfl) (H.get5) (fun _ hS => ov_fieldAddr rfl Try.underlying85 rfl (Try.sizeOf28 _) (by decide) rfl) rfl rfl rfl ?_
                refine th_take 2 rfl (by kernel_rfl) (by kernel_rfl) (by kernel_rfl) (H.get5) (fun _ hS => ov_load_blk hS rfl (Try.isAgg28 _) rfl rfl rfl) rfl rfl rfl ?_
                refine th_one 3 (by kernel_rfl) ?_
                (refine tw_storeW H.get4 rfl rfl (Try.sizeOf85 _) rfl rfl rfl rfl rfl rfl rfl rfl ?_; intro w39 U; have H := H.upd4 U; clear U)
                refine ⟨H.get5, ?_⟩
                refine th_take 4 rfl (by kernel_rfl) (by kernel_rfl) (by kernel_rfl) (H.get5) (fun _ hS => ov_assign rfl rfl) rfl rfl rfl ?_
                refine th_take 5 rfl (by kernel_rfl) (by kernel_rfl) (by kernel_rfl) (H.get5) (fun _ hS => ov_assign rfl rfl) rfl rfl rfl ?_
                refine th_done (by kernel_rfl) ?_
                refine hK21 _ _ (TrC.keep [8, 7, 30, 18, 14, 6, 3, 1, 2] ?_)
                show TrC _ _ _ _ [(8, _), (7, _), (30, _), (18, _), (14, _), (6, _), (3, _), (1, _), (2, _)] _ _
                refine tr_ret (post_ret3 (.inr rfl) rfl (by exact ⟨_, rfl, res_blkN H.get4 (Try.isAgg85 _) (Try.sizeOf85 _) rfl rfl⟩) rfl rfl ?_)
                (have he : setE last X id due = 0 := (by unfold setE; rw [if_neg (by omega), if_neg (by omega), if_neg (by rw [hix]; simp; omega)]); unfold setN setR; rw [if_pos he, if_pos he, setS_ok he, he]; have H2 := H.drop1.drop1.drop1.drop1.drop1; exact ⟨A4, c4, true, rfl, (fun h => by cases h), vec_len H2.get0, H2.upd0 (upd_rdr_of_vec H2.get0 lenRThing (by decide))⟩)
              · skip
                refine tw_val (ov_load_blk H.get3 rfl (Try.isAgg46 _) rfl rfl rfl) rfl ((by exact ⟨_, H.get3⟩)) rfl rfl rfl ?_
                refine th_one 0 (by kernel_rfl) ?_
                refine tw_buildSlice0 H rfl rfl Try.underlying46 info59 rfl rfl rfl ?_
                intro b6 w16 hb6 H
                have H := H.upd0 (upd_vec_of_blk (L := ([] : List RThing)) (enc := encRThing) (sz := 4) H.get0 rfl lenRThing (by simp))
                refine ⟨(by exact ⟨_, H.get4⟩), ?_⟩
                refine th_one 3 (by kernel_rfl) ?_
                (refine tw_append (M := zR (dropT id X)) (L := ([] : List RThing)) H.get0 (opt_rd hbo (H.rd0 hR) H.get2) rfl rfl rfl rfl Try.underlying46 info59 rfl rfl (show Try.t59.bytes = 32 from rfl) rfl (by decide) lenRThing oneRThing (by rw [List.length_nil]; omega) (by rw [List.length_nil]; unfold maxLen; omega) rfl rfl rfl ?_; intro A2 c2 w20 U; have H := H.upd0 U; clear U; rw [List.nil_append] at H ⊢; refine ⟨(by exact ⟨_, H.get4⟩), ?_⟩)
                refine th_one 10 (by kernel_rfl) ?_
                (refine tw_append (M := [toR ⟨id, last + 1, due⟩ 0]) (L := zR (dropT id X)) H.get0 (rd_blk [toR ⟨id, last + 1, due⟩ 0] H.get1 rfl lenRThing) rfl rfl rfl rfl Try.underlying46 info59 rfl rfl (show Try.t59.bytes = 32 from rfl) rfl (by decide) lenRThing oneRThing (by rw [List.length_singleton]; omega) (by rw [List.length_singleton]; unfold maxLen; omega) rfl rfl rfl ?_; intro A3 c3 w30 U; have H := H.upd0 U; clear U; refine ⟨(by exact ⟨_, H.get4⟩), ?_⟩)
                refine th_one 11 (by kernel_rfl) ?_
                refine tw_call (SortedR_c A3 c3 (zR (dropT id X) ++ [toR ⟨id, last + 1, due⟩ 0]) _ (by exact vec_rd H.get0 lenRThing (by decide)) (by simp; omega)) rfl rfl rfl rfl Try.call105 rfl rfl rfl ?_
                rintro _ w40 ⟨A4, c4, rfl, HC⟩
                have H := H.call0r HC
                refine ⟨(by exact ⟨_, H.get5⟩), ?_⟩
                refine th_take 12 rfl (by kernel_rfl) (by kernel_rfl) (by kernel_rfl) ((by exact ⟨_, H.get5⟩)) (fun _ hS => ov_fieldAddr rfl Try.underlying85 rfl (Try.sizeOf46 _) (by decide) rfl) rfl rfl rfl ?_
                refine th_one 13 (by kernel_rfl) ?_
                (refine tw_store H.get5 rfl rfl (Try.sizeOf46 _) rfl rfl rfl rfl rfl rfl rfl ?_; intro w41 U; have H := H.upd5 U; clear U)
                try simp only [List.set_cons_zero, List.set_cons_succ, Nat.zero_add] at H
                refine ⟨(by exact ⟨_, H.get5⟩), ?_⟩
                refine th_done (by kernel_rfl) ?_
                refine hK14 _ _ (TrC.keep [30, 18, 14, 8, 7, 6, 3, 1, 2] ?_)
                show TrC _ _ _ _ [(30, _), (18, _), (14, _), (8, _), (7, _), (6, _), (3, _), (1, _), (2, _)] _ _
                refine tr_seq (fun K22 hK22 => ?_)
                -- region 10: ref.go:65
                refine tr_held (fun w' => (blk b1 85 [.int .i64 now, .int .u64 (last + 1), .slice A4 ((sortR (zR (dropT id X) ++ [toR ⟨id, last + 1, due⟩ 0]))).length c4]).holds w') mixed rfl H ?_
                intro w42 H
                refine th_take 0 rfl (by kernel_rfl) (by kernel_rfl) (by kernel_rfl) (H.get5) (fun _ hS => ov_load_blkN hS rfl (Try.isAgg85 _) (Try.sizeOf85 _) rfl rfl rfl) rfl rfl rfl ?_
                refine th_take 1 rfl (by kernel_rfl) (by kernel_rfl) (by kernel_rfl) (H.get5) (fun _ hS => ov_fieldAddr rfl Try.underlying85 rfl (Try.sizeOf28 _) (by decide) rfl) rfl rfl rfl ?_
                refine th_take 2 rfl (by kernel_rfl) (by kernel_rfl) (by kernel_rfl) (H.get5) (fun _ hS => ov_load_blk hS rfl (Try.isAgg28 _) rfl rfl rfl) rfl rfl rfl ?_
                refine th_one 3 (by kernel_rfl) ?_
                (refine tw_storeW H.get4 rfl rfl (Try.sizeOf85 _) rfl rfl rfl rfl rfl rfl rfl rfl ?_; intro w43 U; have H := H.upd4 U; clear U)
                refine ⟨H.get5, ?_⟩
                refine th_take 4 rfl (by kernel_rfl) (by kernel_rfl) (by kernel_rfl) (H.get5) (fun _ hS => ov_assign rfl rfl) rfl rfl rfl ?_
                refine th_take 5 rfl (by kernel_rfl) (by kernel_rfl) (by kernel_rfl) (H.get5) (fun _ hS => ov_assign rfl rfl) rfl rfl rfl ?_
                refine th_done (by kernel_rfl) ?_
                refine hK22 _ _ (TrC.keep [8, 7, 30, 18, 14, 6, 3, 1, 2] ?_)
                show TrC _ _ _ _ [(8, _), (7, _), (30, _), (18, _), (14, _), (6, _), (3, _), (1, _), (2, _)] _ _
                refine tr_ret (post_ret3 (.inr rfl) rfl (by exact ⟨_, rfl, res_blkN H.get4 (Try.isAgg85 _) (Try.sizeOf85 _) rfl rfl⟩) rfl rfl ?_)
                (have he : setE last X id due = 0 := (by unfold setE; rw [if_neg (by omega), if_neg (by omega), if_neg (by rw [hix]; simp; omega)]); unfold setN setR; rw [if_pos he, if_pos he, setS_ok he, he]; have H2 := H.drop1.drop1.drop1.drop1.drop1; exact ⟨A4, c4, true, rfl, (fun h => by cases h), vec_len H2.get0, H2.upd0 (upd_rdr_of_vec H2.get0 lenRThing (by decide))⟩)
        · skip
          refine tr_pass rfl rfl rfl ?_
          refine tr_pass rfl rfl rfl ?_
          refine tr_pass rfl rfl rfl ?_
          refine tr_pass rfl rfl rfl ?_
          refine tr_pass rfl rfl rfl ?_
          refine tr_val (ov_pick_f (va := undef) rfl rfl rfl rfl) rfl rfl rfl ?_
          refine tr_nil (hK10 _ _ (TrC.keep [30, 18, 14, 8, 7, 6, 3, 1, 2] ?_))
          show TrC _ _ _ _ [(30, _), (18, _), (14, _), (8, _), (7, _), (6, _), (3, _), (1, _), (2, _)] _ _
          refine tr_cond_f rfl rfl ?_
          refine tr_skip (hK9 _ _ (TrC.keep [30, 18, 14, 8, 7, 6, 3, 1, 2] ?_))
          show TrC _ _ _ _ [(30, _), (18, _), (14, _), (8, _), (7, _), (6, _), (3, _), (1, _), (2, _)] _ _
          refine tr_seq (fun K23 hK23 => ?_)
          -- region 7: ref.go:62
          refine tr_region ?_
          refine tr_val (ov_load_blkN H.get1 rfl (Try.isAgg85 _) (Try.sizeOf85 _) rfl rfl rfl) rfl rfl rfl ?_
          refine tr_val (ov_move rfl rfl) rfl rfl rfl ?_
          refine tr_call (ClearR_r B c (zR X) now last _ (by omega) hc (H.rd0 hR) id) rfl rfl rfl Try.call74 rfl rfl rfl ?_
          rintro _ w44 ⟨A1, c1, bo, rfl, hbo, hc1, HC⟩
          have H := H.call0r HC
          rw [dropR_z] at H hc1 hbo ⊢
          refine tr_val (ov_move rfl rfl) rfl rfl rfl ?_
          refine tr_val (ov_extract rfl rfl rfl) rfl rfl rfl ?_
          refine tr_val (ov_extract rfl rfl rfl) rfl rfl rfl ?_
          refine tr_val (ov_extract rfl rfl rfl) rfl rfl rfl ?_
          (refine tr_storeW H.get2 rfl (Try.sizeOf85 _) rfl rfl rfl rfl rfl rfl rfl rfl ?_; intro w45 U; have H := H.upd2 U; clear U)
          refine tr_nil (hK23 _ _ (TrC.keep [30, 18, 14, 8, 7, 6, 3, 1, 2] ?_))
          show TrC _ _ _ _ [(30, _), (18, _), (14, _), (8, _), (7, _), (6, _), (3, _), (1, _), (2, _)] _ _
          refine tr_seq (fun K24 hK24 => ?_)
          -- region 8: ref.go:63
          refine tr_region ?_
          refine tr_val (ov_fieldAddr rfl Try.underlying85 rfl (Try.sizeOf28 _) (by decide) rfl) rfl rfl rfl ?_
          refine tr_val (ov_load_blk H.get2 rfl (Try.isAgg28 _) rfl rfl rfl) rfl rfl rfl ?_
          refine tr_val (ov_add rfl rfl rfl (wu64 (by omega))) rfl rfl rfl ?_
          refine tr_val (ov_fieldAddr rfl Try.underlying85 rfl (Try.sizeOf28 _) (by decide) rfl) rfl rfl rfl ?_
          (refine tr_store H.get2 rfl (Try.sizeOf28 _) rfl rfl rfl rfl rfl rfl rfl ?_; intro w46 U; have H := H.upd2 U; clear U)
          try simp only [List.set_cons_zero, List.set_cons_succ, Nat.zero_add] at H
          refine tr_nil (hK24 _ _ (TrC.keep [30, 18, 14, 8, 7, 6, 3, 1, 2] ?_))
          show TrC _ _ _ _ [(30, _), (18, _), (14, _), (8, _), (7, _), (6, _), (3, _), (1, _), (2, _)] _ _
          refine tr_seq (fun K25 hK25 => ?_)
          -- region 9: ref.go:64
          refine tr_held (fun w' => ∃ x, (blk b1 85 [.int .i64 now, .int .u64 (last + 1), x]).holds w') mixed rfl H ?_
          intro w47 H
          refine th_take 1 rfl (by kernel_rfl) (by kernel_rfl) (by kernel_rfl) ((by exact ⟨_, H.get2⟩)) (fun _ hS => ov_fieldAddr rfl Try.underlying85 rfl (Try.sizeOf46 _) (by decide) rfl) rfl rfl rfl ?_
          refine th_take 4 rfl (by kernel_rfl) (by kernel_rfl) (by kernel_rfl) ((by exact ⟨_, H.get2⟩)) (fun _ hS => ov_move rfl rfl) rfl rfl rfl ?_
          refine th_take 5 rfl (by kernel_rfl) (by kernel_rfl) (by kernel_rfl) ((by exact ⟨_, H.get2⟩)) (fun _ hS => ov_fieldAddr rfl Try.underlying85 rfl (Try.sizeOf28 _) (by decide) rfl) rfl rfl rfl ?_
          refine th_take 6 rfl (by kernel_rfl) (by kernel_rfl) (by kernel_rfl) ((by exact ⟨_, H.get2⟩)) (fun _ hS => (hS.elim fun _ hx => ov_load_blk hx rfl (Try.isAgg28 _) rfl rfl rfl)) rfl rfl rfl ?_
          refine th_take 7 rfl (by kernel_rfl) (by kernel_rfl) (by kernel_rfl) ((by exact ⟨_, H.get2⟩)) (fun _ hS => ov_move rfl rfl) rfl rfl rfl ?_
          refine th_take 8 rfl (by kernel_rfl) (by kernel_rfl) (by kernel_rfl) ((by exact ⟨_, H.get2⟩)) (fun _ hS => ov_build rfl (fun ρ k => bs3 k rfl rfl rfl) (bld59_0_1_2 _ _ _ _)) rfl rfl rfl ?_
          refine th_three 0 2 9 (by kernel_rfl) ?_ ?_ ?_
          · skip
            refine tw_buildSlice0 H rfl rfl Try.underlying46 info59 rfl rfl rfl ?_
            intro b6 w16 hb6 H
            have H := H.upd0 (upd_vec_of_blk (L := ([] : List RThing)) (enc := encRThing) (sz := 4) H.get0 rfl lenRThing (by simp))
            refine ⟨(by exact ⟨_, H.get3⟩), ?_⟩
            refine th_two 2 9 (by kernel_rfl) ?_ ?_
            · skip
              refine tw_val (ov_load_blk H.get3 rfl (Try.isAgg46 _) rfl rfl rfl) rfl ((by exact ⟨_, H.get3⟩)) rfl rfl rfl ?_
              refine th_two 3 9 (by kernel_rfl) ?_ ?_
              · skip
                (refine tw_append (M := zR (dropT id X)) (L := ([] : List RThing)) H.get0 (opt_rd hbo (H.rd0 hR) H.get1) rfl rfl rfl rfl Try.underlying46 info59 rfl rfl (show Try.t59.bytes = 32 from rfl) rfl (by decide) lenRThing oneRThing (by rw [List.length_nil]; omega) (by rw [List.length_nil]; unfold maxLen; omega) rfl rfl rfl ?_; intro A2 c2 w20 U; have H := H.upd0 U; clear U; rw [List.nil_append] at H ⊢; refine ⟨(by exact ⟨_, H.get3⟩), ?_⟩)
                refine th_one 9 (by kernel_rfl) ?_
                refine tw_buildSlice H rfl rfl Try.underlying46 info59 rfl (fun ρ k => bs1 k rfl) (by decide) (by decide) (fill_RThing_1 _ _ _ _) rfl rfl rfl ?_
                intro b7 w7 hb7 H
                refine ⟨(by exact ⟨_, H.get4⟩), ?_⟩
                refine th_one 10 (by kernel_rfl) ?_
                (refine tw_append (M := [toR ⟨id, last + 1, due⟩ 0]) (L := zR (dropT id X)) H.get1 (rd_blk [toR ⟨id, last + 1, due⟩ 0] H.get0 rfl lenRThing) rfl rfl rfl rfl Try.underlying46 info59 rfl rfl (show Try.t59.bytes = 32 from rfl) rfl (by decide) lenRThing oneRThing (by rw [List.length_singleton]; omega) (by rw [List.length_singleton]; unfold maxLen; omega) rfl rfl rfl ?_; intro A3 c3 w30 U; have H := H.upd1 U; clear U; refine ⟨(by exact ⟨_, H.get4⟩), ?_⟩)
                refine th_one 11 (by kernel_rfl) ?_
                refine tw_call (SortedR_c A3 c3 (zR (dropT id X) ++ [toR ⟨id, last + 1, due⟩ 0]) _ (by exact vec_rd H.get1 lenRThing (by decide)) (by simp; omega)) rfl rfl rfl rfl Try.call105 rfl rfl rfl ?_
                rintro _ w48 ⟨A4, c4, rfl, HC⟩
                have H := H.call0r HC
                refine ⟨(by exact ⟨_, H.get5⟩), ?_⟩
                refine th_take 12 rfl (by kernel_rfl) (by kernel_rfl) (by kernel_rfl) ((by exact ⟨_, H.get5⟩)) (fun _ hS => ov_fieldAddr rfl Try.underlying85 rfl (Try.sizeOf46 _) (by decide) rfl) rfl rfl rfl ?_
                refine th_one 13 (by kernel_rfl) ?_
                (refine tw_store H.get5 rfl rfl (Try.sizeOf46 _) rfl rfl rfl rfl rfl rfl rfl ?_; intro w49 U; have H := H.upd5 U; clear U)
                try simp only [List.set_cons_zero, List.set_cons_succ, Nat.zero_add] at H
                refine ⟨(by exact ⟨_, H.get5⟩), ?_⟩
                refine th_done (by kernel_rfl) ?_
                refine hK25 _ _ (TrC.keep [30, 18, 14, 8, 7, 6, 3, 1, 2] ?_)
                show TrC _ _ _ _ [(30, _), (18, _), (14, _), (8, _), (7, _), (6, _), (3, _), (1, _), (2, _)] _ _
                refine tr_seq (fun K26 hK26 => ?_)
                -- region 10: ref.go:65
                refine tr_held (fun w' => (blk b1 85 [.int .i64 now, .int .u64 (last + 1), .slice A4 ((sortR (zR (dropT id X) ++ [toR ⟨id, last + 1, due⟩ 0]))).length c4]).holds w') mixed rfl H ?_
                intro w50 H
                refine th_take 0 rfl (by kernel_rfl) (by kernel_rfl) (by kernel_rfl) (H.get5) (fun _ hS => ov_load_blkN hS rfl (Try.isAgg85 _) (Try.sizeOf85 _) rfl rfl rfl) rfl rfl rfl ?_
                refine th_take 1 rfl (by kernel_rfl) (by kernel_rfl) (by kernel_rfl) (H.get5) (fun _ hS => ov_fieldAddr rfl Try.underlying85 rfl (Try.sizeOf28 _) (by decide) rfl) rfl rfl rfl ?_
                refine th_take 2 rfl (by kernel_rfl) (by kernel_rfl) (by kernel_rfl) (H.get5) (fun _ hS => ov_load_blk hS rfl (Try.isAgg28 _) rfl rfl rfl) rfl rfl rfl ?_
                refine th_one 3 (by kernel_rfl) ?_
                (refine tw_storeW H.get4 rfl rfl (Try.sizeOf85 _) rfl rfl rfl rfl rfl rfl rfl rfl ?_; intro w51 U; have H := H.upd4 U; clear U)
                refine ⟨H.get5, ?_⟩
                refine th_take 4 rfl (by kernel_rfl) (by kernel_rfl) (by kernel_rfl) (H.get5) (fun _ hS => ov_assign rfl rfl) rfl rfl rfl ?_
                refine th_take 5 rfl (by kernel_rfl) (by kernel_rfl) (by kernel_rfl) (H.get5) (fun _ hS => ov_assign rfl rfl) rfl rfl rfl ?_
                refine th_done (by kernel_rfl) ?_
                refine hK26 _ _ (TrC.keep [8, 7, 30, 18, 14, 6, 3, 1, 2] ?_)
                show TrC _ _ _ _ [(8, _), (7, _), (30, _), (18, _), (14, _), (6, _), (3, _), (1, _), (2, _)] _ _
                refine tr_ret (post_ret3 (.inr rfl) rfl (by exact ⟨_, rfl, res_blkN H.get4 (Try.isAgg85 _) (Try.sizeOf85 _) rfl rfl⟩) rfl rfl ?_)
                (have he : setE last X id due = 0 := (by unfold setE; rw [if_neg (by omega), if_neg (by omega), if_neg (by rw [hix]; simp; omega)]); unfold setN setR; rw [if_pos he, if_pos he, setS_ok he, he]; have H2 := H.drop1.drop1.drop1.drop1.drop1; exact ⟨A4, c4, true, rfl, (fun h => by cases h), vec_len H2.get0, H2.upd0 (upd_rdr_of_vec H2.get0 lenRThing (by decide))⟩)
              · skip
                refine tw_buildSlice H rfl rfl Try.underlying46 info59 rfl (fun ρ k => bs1 k rfl) (by decide) (by decide) (fill_RThing_1 _ _ _ _) rfl rfl rfl ?_
                intro b7 w7 hb7 H
                refine ⟨(by exact ⟨_, H.get4⟩), ?_⟩
                refine th_one 3 (by kernel_rfl) ?_
                (refine tw_append (M := zR (dropT id X)) (L := ([] : List RThing)) H.get1 (opt_rd hbo (H.rd0 hR) H.get2) rfl rfl rfl rfl Try.underlying46 info59 rfl rfl (show Try.t59.bytes = 32 from rfl) rfl (by decide) lenRThing oneRThing (by rw [List.length_nil]; omega) (by rw [List.length_nil]; unfold maxLen; omega) rfl rfl rfl ?_; intro A2 c2 w20 U; have H := H.upd1 U; clear U; rw [List.nil_append] at H ⊢; refine ⟨(by exact ⟨_, H.get4⟩), ?_⟩)
                refine th_one 10 (by kernel_rfl) ?_
                (refine tw_append (M := [toR ⟨id, last + 1, due⟩ 0]) (L := zR (dropT id X)) H.get1 (rd_blk [toR ⟨id, last + 1, due⟩ 0] H.get0 rfl lenRThing) rfl rfl rfl rfl Try.underlying46 info59 rfl rfl (show Try.t59.bytes = 32 from rfl) rfl (by decide) lenRThing oneRThing (by rw [List.length_singleton]; omega) (by rw [List.length_singleton]; unfold maxLen; omega) rfl rfl rfl ?_; intro A3 c3 w30 U; have H := H.upd1 U; clear U; refine ⟨(by exact ⟨_, H.get4⟩), ?_⟩)
                refine th_one 11 (by kernel_rfl) ?_
                refine tw_call (SortedR_c A3 c3 (zR (dropT id X) ++ [toR ⟨id, last + 1, due⟩ 0]) _ (by exact vec_rd H.get1 lenRThing (by decide)) (by simp; omega)) rfl rfl rfl rfl Try.call105 rfl rfl rfl ?_
                rintro _ w52 ⟨A4, c4, rfl, HC⟩
                have H := H.call0r HC
                refine ⟨(by exact ⟨_, H.get5⟩), ?_⟩
                refine th_take 12 rfl (by kernel_rfl) (by kernel_rfl) (by kernel_rfl) ((by exact ⟨_, H.get5⟩)) (fun _ hS => ov_fieldAddr rfl Try.underlying85 rfl (Try.sizeOf46 _) (by decide) rfl) rfl rfl rfl ?_
                refine th_one 13 (by kernel_rfl) ?_
                (refine tw_store H.get5 rfl rfl (Try.sizeOf46 _) rfl rfl rfl rfl rfl rfl rfl ?_; intro w53 U; have H := H.upd5 U; clear U)
                try simp only [List.set_cons_zero, List.set_cons_succ, Nat.zero_add] at H
                refine ⟨(by exact ⟨_, H.get5⟩), ?_⟩
                refine th_done (by kernel_rfl) ?_
                refine hK25 _ _ (TrC.keep [30, 18, 14, 8, 7, 6, 3, 1, 2] ?_)
                show TrC _ _ _ _ [(30, _), (18, _), (14, _), (8, _), (7, _), (6, _), (3, _), (1, _), (2, _)] _ _
                refine tr_seq (fun K27 hK27 => ?_)
                -- region 10: ref.go:65
                refine tr_held (fun w' => (blk b1 85 [.int .i64 now, .int .u64 (last + 1), .slice A4 ((sortR (zR (dropT id X) ++ [toR ⟨id, last + 1, due⟩ 0]))).length c4]).holds w') mixed rfl H ?_
                intro w54 H
                refine th_take 0 rfl (by kernel_rfl) (by kernel_rfl) (by kernel_rfl) (H.get5) (fun _ hS => ov_load_blkN hS rfl (Try.isAgg85 _) (Try.sizeOf85 _) rfl rfl rfl) rfl rfl rfl ?_
                refine th_take 1 rfl (by kernel_rfl) (by kernel_rfl) (by kernel_rfl) (H.get5) (fun _ hS => ov_fieldAddr rfl Try.underlying85 rfl (Try.sizeOf28 _) (by decide) rfl) rfl rfl rfl ?_
                refine th_take 2 rfl (by kernel_rfl) (by kernel_rfl) (by kernel_rfl) (H.get5) (fun _ hS => ov_load_blk hS rfl (Try.isAgg28 _) rfl rfl rfl) rfl rfl rfl ?_
                refine th_one 3 (by kernel_rfl) ?_
                (refine tw_storeW H.get4 rfl rfl (Try.sizeOf85 _) rfl rfl rfl rfl rfl rfl rfl rfl ?_; intro w55 U; have H := H.upd4 U; clear U)
                refine ⟨H.get5, ?_⟩
                refine th_take 4 rfl (by kernel_rfl) (by kernel_rfl) (by kernel_rfl) (H.get5) (fun _ hS => ov_assign rfl rfl) rfl rfl rfl ?_
                refine th_take 5 rfl (by kernel_rfl) (by kernel_rfl) (by kernel_rfl) (H.get5) (fun _ hS => ov_assign rfl rfl) rfl rfl rfl ?_
                refine th_done (by kernel_rfl) ?_
                refine hK27 _ _ (TrC.keep [8, 7, 30, 18, 14, 6, 3, 1, 2] ?_)
                show TrC _ _ _ _ [(8, _), (7, _), (30, _), (18, _), (14, _), (6, _), (3, _), (1, _), (2, _)] _ _
                refine tr_ret (post_ret3 (.inr rfl) rfl (by exact ⟨_, rfl, res_blkN H.get4 (Try.isAgg85 _) (Try.sizeOf85 _) rfl rfl⟩) rfl rfl ?_)
                (have he : setE last X id due = 0 := (by unfold setE; rw [if_neg (by omega), if_neg (by omega), if_neg (by rw [hix]; simp; omega)]); unfold setN setR; rw [if_pos he, if_pos he, setS_ok he, he]; have H2 := H.drop1.drop1.drop1.drop1.drop1; exact ⟨A4, c4, true, rfl, (fun h => by cases h), vec_len H2.get0, H2.upd0 (upd_rdr_of_vec H2.get0 lenRThing (by decide))⟩)
            · skip
              refine tw_buildSlice H rfl rfl Try.underlying46 info59 rfl (fun ρ k => bs1 k rfl) (by decide) (by decide) (fill_RThing_1 _ _ _ _) rfl rfl rfl ?_
              intro b7 w7 hb7 H
              refine ⟨(by exact ⟨_, H.get4⟩), ?_⟩
              refine th_one 2 (by kernel_rfl) ?_
              refine tw_val (ov_load_blk H.get4 rfl (Try.isAgg46 _) rfl rfl rfl) rfl ((by exact ⟨_, H.get4⟩)) rfl rfl rfl ?_
              refine th_one 3 (by kernel_rfl) ?_
              (refine tw_append (M := zR (dropT id X)) (L := ([] : List RThing)) H.get1 (opt_rd hbo (H.rd0 hR) H.get2) rfl rfl rfl rfl Try.underlying46 info59 rfl rfl (show Try.t59.bytes = 32 from rfl) rfl (by decide) lenRThing oneRThing (by rw [List.length_nil]; omega) (by rw [List.length_nil]; unfold maxLen; omega) rfl rfl rfl ?_; intro A2 c2 w20 U; have H := H.upd1 U; clear U; rw [List.nil_append] at H ⊢; refine ⟨(by exact ⟨_, H.get4⟩), ?_⟩)
              refine th_one 10 (by kernel_rfl) ?_
              (refine tw_append (M := [toR ⟨id, last + 1, due⟩ 0]) (L := zR (dropT id X)) H.get1 (rd_blk [toR ⟨id, last + 1, due⟩ 0] H.get0 rfl lenRThing) rfl rfl rfl rfl Try.underlying46 info59 rfl rfl (show Try.t59.bytes = 32 from rfl) rfl (by decide) lenRThing oneRThing (by rw [List.length_singleton]; omega) (by rw [List.length_singleton]; unfold maxLen; omega) rfl rfl rfl ?_; intro A3 c3 w30 U; have H := H.upd1 U; clear U; refine ⟨(by exact ⟨_, H.get4⟩), ?_⟩)
              refine th_one 11 (by kernel_rfl) ?_
              refine tw_call (SortedR_c A3 c3 (zR (dropT id X) ++ [toR ⟨id, last + 1, due⟩ 0]) _ (by exact vec_rd H.get1 lenRThing (by decide)) (by simp; omega)) rfl rfl rfl rfl Try.call105 rfl rfl rfl ?_
              rintro _ w56 ⟨A4, c4, rfl, HC⟩
              have H := H.call0r HC
              refine ⟨(by exact ⟨_, H.get5⟩), ?_⟩
              refine th_take 12 rfl (by kernel_rfl) (by kernel_rfl) (by kernel_rfl) ((by exact ⟨_, H.get5⟩)) (fun _ hS => ov_fieldAddr rfl Try.underlying85 rfl (Try.sizeOf46 _) (by decide) rfl) rfl rfl rfl ?_
              refine th_one 13 (by kernel_rfl) ?_
              (refine tw_store H.get5 rfl rfl (Try.sizeOf46 _) rfl rfl rfl rfl rfl rfl rfl ?_; intro w57 U; have H := H.upd5 U; clear U)
              try simp only [List.set_cons_zero, List.set_cons_succ, Nat.zero_add] at H
              refine ⟨(by exact ⟨_, H.get5⟩), ?_⟩
              refine th_done (by kernel_rfl) ?_
              refine hK25 _ _ (TrC.keep [30, 18, 14, 8, 7, 6, 3, 1, 2] ?_)
              show TrC _ _ _ _ [(30, _), (18, _), (14, _), (8, _), (7, _), (6, _), (3, _), (1, _), (2, _)] _ _
              refine tr_seq (fun K28 hK28 => ?_)
              -- region 10: ref.go:65
              refine tr_held (fun w' => (blk b1 85 [.int .i64 now, .int .u64 (last + 1), .slice A4 ((sortR (zR (dropT id X) ++ [toR ⟨id, last + 1, due⟩ 0]))).length c4]).holds w') mixed rfl H ?_
              intro w58 H
              refine th_take 0 rfl (by kernel_rfl) (by kernel_rfl) (by kernel_rfl) (H.get5) (fun _ hS => ov_load_blkN hS rfl (Try.isAgg85 _) (Try.sizeOf85 _) rfl rfl rfl) rfl rfl rfl ?_
              refine th_take 1 rfl (by kernel_rfl) (by kernel_rfl) (by kernel_rfl) (H.get5) (fun _ hS => ov_fieldAddr rfl Try.underlying85 rfl (Try.sizeOf28 _) (by decide) rfl) rfl rfl rfl ?_
              refine th_take 2 rfl (by kernel_rfl) (by kernel_rfl) (by kernel_rfl) (H.get5) (fun _ hS => ov_load_blk hS rfl (Try.isAgg28 _) rfl rfl rfl) rfl rfl rfl ?_
              refine th_one 3 (by kernel_rfl) ?_
              (refine tw_storeW H.get4 rfl rfl (Try.sizeOf85 _) rfl rfl rfl rfl rfl rfl rfl rfl ?_; intro w59 U; have H := H.upd4 U; clear U)
              refine ⟨H.get5, ?_⟩
              refine th_take 4 rfl (by kernel_rfl) (by kernel_rfl) (by kernel_rfl) (H.get5) (fun _ hS => ov_assign rfl rfl) rfl rfl rfl ?_
              refine th_take 5 rfl (by kernel_rfl) (by kernel_rfl) (by kernel_rfl) (H.get5) (fun _ hS => ov_assign rfl rfl) rfl rfl rfl ?_
              refine th_done (by kernel_rfl) ?_
              refine hK28 _ _ (TrC.keep [8, 7, 30, 18, 14, 6, 3, 1, 2] ?_)
              show TrC _ _ _ _ [(8, _), (7, _), (30, _), (18, _), (14, _), (6, _), (3, _), (1, _), (2, _)] _ _
              refine tr_ret (post_ret3 (.inr rfl) rfl (by exact ⟨_, rfl, res_blkN H.get4 (Try.isAgg85 _) (Try.sizeOf85 _) rfl rfl⟩) rfl rfl ?_)
              (have he : setE last X id due = 0 := (by unfold setE; rw [if_neg (by omega), if_neg (by omega), if_neg (by rw [hix]; simp; omega)]); unfold setN setR; rw [if_pos he, if_pos he, setS_ok he, he]; have H2 := H.drop1.drop1.drop1.drop1.drop1; exact ⟨A4, c4, true, rfl, (fun h => by cases h), vec_len H2.get0, H2.upd0 (upd_rdr_of_vec H2.get0 lenRThing (by decide))⟩)
          · skip
            refine tw_val (ov_load_blk H.get2 rfl (Try.isAgg46 _) rfl rfl rfl) rfl ((by exact ⟨_, H.get2⟩)) rfl rfl rfl ?_
            refine th_two 0 9 (by kernel_rfl) ?_ ?_
            · skip
              refine tw_buildSlice0 H rfl rfl Try.underlying46 info59 rfl rfl rfl ?_
              intro b6 w16 hb6 H
              have H := H.upd0 (upd_vec_of_blk (L := ([] : List RThing)) (enc := encRThing) (sz := 4) H.get0 rfl lenRThing (by simp))
              refine ⟨(by exact ⟨_, H.get3⟩), ?_⟩
              refine th_two 3 9 (by kernel_rfl) ?_ ?_
              · skip
                (refine tw_append (M := zR (dropT id X)) (L := ([] : List RThing)) H.get0 (opt_rd hbo (H.rd0 hR) H.get1) rfl rfl rfl rfl Try.underlying46 info59 rfl rfl (show Try.t59.bytes = 32 from rfl) rfl (by decide) lenRThing oneRThing (by rw [List.length_nil]; omega) (by rw [List.length_nil]; unfold maxLen; omega) rfl rfl rfl ?_; intro A2 c2 w20 U; have H := H.upd0 U; clear U; rw [List.nil_append] at H ⊢; refine ⟨(by exact ⟨_, H.get3⟩), ?_⟩)
                refine th_one 9 (by kernel_rfl) ?_
                refine tw_buildSlice H rfl rfl Try.underlying46 info59 rfl (fun ρ k => bs1 k rfl) (by decide) (by decide) (fill_RThing_1 _ _ _ _) rfl rfl rfl ?_
                intro b7 w7 hb7 H
                refine ⟨(by exact ⟨_, H.get4⟩), ?_⟩
                refine th_one 10 (by kernel_rfl) ?_
                (refine tw_append (M := [toR ⟨id, last + 1, due⟩ 0]) (L := zR (dropT id X)) H.get1 (rd_blk [toR ⟨id, last + 1, due⟩ 0] H.get0 rfl lenRThing) rfl rfl rfl rfl Try.underlying46 info59 rfl rfl (show Try.t59.bytes = 32 from rfl) rfl (by decide) lenRThing oneRThing (by rw [List.length_singleton]; omega) (by rw [List.length_singleton]; unfold maxLen; omega) rfl rfl rfl ?_; intro A3 c3 w30 U; have H := H.upd1 U; clear U; refine ⟨(by exact ⟨_, H.get4⟩), ?_⟩)
                refine th_one 11 (by kernel_rfl) ?_
                refine tw_call (SortedR_c A3 c3 (zR (dropT id X) ++ [toR ⟨id, last + 1, due⟩ 0]) _ (by exact vec_rd H.get1 lenRThing (by decide)) (by simp; omega)) rfl rfl rfl rfl Try.call105 rfl rfl rfl ?_
                rintro _ w60 ⟨A4, c4, rfl, HC⟩
                have H := H.call0r HC
                refine ⟨(by exact ⟨_, H.get5⟩), ?_⟩
                refine th_take 12 rfl (by kernel_rfl) (by kernel_rfl) (by kernel_rfl) ((by exact ⟨_, H.get5⟩)) (fun _ hS => ov_fieldAddr rfl Try.underlying85 rfl (Try.sizeOf46 _) (by decide) rfl) rfl rfl rfl ?_
                refine th_one 13 (by kernel_rfl) ?_
                (refine tw_store H.get5 rfl rfl (Try.sizeOf46 _) rfl rfl rfl rfl rfl rfl rfl ?_; intro w61 U; have H := H.upd5 U; clear U)
                try simp only [List.set_cons_zero, List.set_cons_succ, Nat.zero_add] at H
                refine ⟨(by exact ⟨_, H.get5⟩), ?_⟩
                refine th_done (by kernel_rfl) ?_
                refine hK25 _ _ (TrC.keep [30, 18, 14, 8, 7, 6, 3, 1, 2] ?_)
                show TrC _ _ _ _ [(30, _), (18, _), (14, _), (8, _), (7, _), (6, _), (3, _), (1, _), (2, _)] _ _
                refine tr_seq (fun K29 hK29 => ?_)
                -- region 10: ref.go:65
                refine tr_held (fun w' => (blk b1 85 [.int .i64 now, .int .u64 (last + 1), .slice A4 ((sortR (zR (dropT id X) ++ [toR ⟨id, last + 1, due⟩ 0]))).length c4]).holds w') mixed rfl H ?_
                intro w62 H
                refine th_take 0 rfl (by kernel_rfl) (by kernel_rfl) (by kernel_rfl) (H.get5) (fun _ hS => ov_load_blkN hS rfl (Try.isAgg85 _) (Try.sizeOf85 _) rfl rfl rfl) rfl rfl rfl ?_
                refine th_take 1 rfl (by kernel_rfl) (by kernel_rfl) (by kernel_rfl) (H.get5) (fun _ hS => ov_fieldAddr rfl Try.underlying85 rfl (Try.sizeOf28 _) (by decide) rfl) rfl rfl rfl ?_
                refine th_take 2 rfl (by kernel_rfl) (by kernel_rfl) (by kernel_rfl) (H.get5) (fun _ hS => ov_load_blk hS rfl (Try.isAgg28 _) rfl rfl rfl) rfl rfl rfl ?_
                refine th_one 3 (by kernel_rfl) ?_
                (refine tw_storeW H.get4 rfl rfl (Try.sizeOf85 _) rfl rfl rfl rfl rfl rfl rfl rfl ?_; intro w63 U; have H := H.upd4 U; clear U)
                refine ⟨H.get5, ?_⟩
                refine th_take 4 rfl (by kernel_rfl) (by kernel_rfl) (by kernel_rfl) (H.get5) (fun _ hS => ov_assign rfl rfl) rfl rfl rfl ?_
                refine th_take 5 rfl (by kernel_rfl) (by kernel_rfl) (by kernel_rfl) (H.get5) (fun _ hS => ov_assign rfl rfl) rfl rfl rfl ?_
                refine th_done (by kernel_rfl) ?_
                refine hK29 _ _ (TrC.keep [8, 7, 30, 18, 14, 6, 3, 1, 2] ?_)
                show TrC _ _ _ _ [(8, _), (7, _), (30, _), (18, _), (14, _), (6, _), (3, _), (1, _), (2, _)] _ _
                refine tr_ret (post_ret3 (.inr rfl) rfl (by exact ⟨_, rfl, res_blkN H.get4 (Try.isAgg85 _) (Try.sizeOf85 _) rfl rfl⟩) rfl rfl ?_)
                (have he : setE last X id due = 0 := (by unfold setE; rw [if_neg (by omega), if_neg (by omega), if_neg (by rw [hix]; simp; omega)]); unfold setN setR; rw [if_pos he, if_pos he, setS_ok he, he]; have H2 := H.drop1.drop1.drop1.drop1.drop1; exact ⟨A4, c4, true, rfl, (fun h => by cases h), vec_len H2.get0, H2.upd0 (upd_rdr_of_vec H2.get0 lenRThing (by decide))⟩)
              · skip
                refine tw_buildSlice H rfl rfl Try.underlying46 info59 rfl (fun ρ k => bs1 k rfl) (by decide) (by decide) (fill_RThing_1 _ _ _ _) rfl rfl rfl ?_
                intro b7 w7 hb7 H
                refine ⟨(by exact ⟨_, H.get4⟩), ?_⟩
                refine th_one 3 (by kernel_rfl) ?_
                (refine tw_append (M := zR (dropT id X)) (L := ([] : List RThing)) H.get1 (opt_rd hbo (H.rd0 hR) H.get2) rfl rfl rfl rfl Try.underlying46 info59 rfl rfl (show Try.t59.bytes = 32 from rfl) rfl (by decide) lenRThing oneRThing (by rw [List.length_nil]; omega) (by rw [List.length_nil]; unfold maxLen; omega) rfl rfl rfl ?_; intro A2 c2 w20 U; have H := H.upd1 U; clear U; rw [List.nil_append] at H ⊢; refine ⟨(by exact ⟨_, H.get4⟩), ?_⟩)
                refine th_one 10 (by kernel_rfl) ?_
                (refine tw_append (M := [toR ⟨id, last + 1, due⟩ 0]) (L := zR (dropT id X)) H.get1 (rd_blk [toR ⟨id, last + 1, due⟩ 0] H.get0 rfl lenRThing) rfl rfl rfl rfl Try.underlying46 info59 rfl rfl (show Try.t59.bytes = 32 from rfl) rfl (by decide) lenRThing oneRThing (by rw [List.length_singleton]; omega) (by rw [List.length_singleton]; unfold maxLen; omega) rfl rfl rfl ?_; intro A3 c3 w30 U; have H := H.upd1 U; clear U; refine ⟨(by exact ⟨_, H.get4⟩), ?_⟩)
                refine th_one 11 (by kernel_rfl) ?_
                refine tw_call (SortedR_c A3 c3 (zR (dropT id X) ++ [toR ⟨id, last + 1, due⟩ 0]) _ (by exact vec_rd H.get1 lenRThing (by decide)) (by simp; omega)) rfl rfl rfl rfl Try.call105 rfl rfl rfl ?_
                rintro _ w64 ⟨A4, c4, rfl, HC⟩
                have H := H.call0r HC
                refine ⟨(by exact ⟨_, H.get5⟩), ?_⟩
                refine th_take 12 rfl (by kernel_rfl) (by kernel_rfl) (by kernel_rfl) ((by exact ⟨_, H.get5⟩)) (fun _ hS => ov_fieldAddr rfl Try.underlying85 rfl (Try.sizeOf46 _) (by decide) rfl) rfl rfl rfl ?_
                refine th_one 13 (by kernel_rfl) ?_
                (refine tw_store H.get5 rfl rfl (Try.sizeOf46 _) rfl rfl rfl rfl rfl rfl rfl ?_; intro w65 U; have H := H.upd5 U; clear U)
                try simp only [List.set_cons_zero, List.set_cons_succ, Nat.zero_add] at H
                refine ⟨(by exact ⟨_, H.get5⟩), ?_⟩
                refine th_done (by kernel_rfl) ?_
                refine hK25 _ _ (TrC.keep [30, 18, 14, 8, 7, 6, 3, 1, 2] ?_)
                show TrC _ _ _ _ [(30, _), (18, _), (14, _), (8, _), (7, _), (6, _), (3, _), (1, _), (2, _)] _ _
                refine tr_seq (fun K30 hK30 => ?_)
                -- region 10: ref.go:65
                refine tr_held (fun w' => (blk b1 85 [.int .i64 now, .int .u64 (last + 1), .slice A4 ((sortR (zR (dropT id X) ++ [toR ⟨id, last + 1, due⟩ 0]))).length c4]).holds w') mixed rfl H ?_
                intro w66 H
                refine th_take 0 rfl (by kernel_rfl) (by kernel_rfl) (by kernel_rfl) (H.get5) (fun _ hS => ov_load_blkN hS rfl (Try.isAgg85 _) (Try.sizeOf85 _) rfl rfl rfl) rfl rfl rfl ?_
                refine th_take 1 rfl (by kernel_rfl) (by kernel_rfl) (by kernel_rfl) (H.get5) (fun _ hS => ov_fieldAddr rfl Try.underlying85 rfl (Try.sizeOf28 _) (by decide) rfl) rfl rfl rfl ?_
                refine th_take 2 rfl (by kernel_rfl) (by kernel_rfl) (by kernel_rfl) (H.get5) (fun _ hS => ov_load_blk hS rfl (Try.isAgg28 _) rfl rfl rfl) rfl rfl rfl ?_
                refine th_one 3 (by kernel_rfl) ?_
                (refine tw_storeW H.get4 rfl rfl (Try.sizeOf85 _) rfl rfl rfl rfl rfl rfl rfl rfl ?_; intro w67 U; have H := H.upd4 U; clear U)
                refine ⟨H.get5, ?_⟩
                refine th_take 4 rfl (by kernel_rfl) (by kernel_rfl) (by kernel_rfl) (H.get5) (fun _ hS => ov_assign rfl rfl) rfl rfl rfl ?_
                refine th_take 5 rfl (by kernel_rfl) (by kernel_rfl) (by kernel_rfl) (H.get5) (fun _ hS => ov_assign rfl rfl) rfl rfl rfl ?_
                refine th_done (by kernel_rfl) ?_
                refine hK30 _ _ (TrC.keep [8, 7, 30, 18, 14, 6, 3, 1, 2] ?_)
                show TrC _ _ _ _ [(8, _), (7, _), (30, _), (18, _), (14, _), (6, _), (3, _), (1, _), (2, _)] _ _
                refine tr_ret (post_ret3 (.inr rfl) rfl (by exact ⟨_, rfl, res_blkN H.get4 (Try.isAgg85 _) (Try.sizeOf85 _) rfl rfl⟩) rfl rfl ?_)
                (have he : setE last X id due = 0 := (by unfold setE; rw [if_neg (by omega), if_neg (by omega), if_neg (by rw [hix]; simp; omega)]); unfold setN setR; rw [if_pos he, if_pos he, setS_ok he, he]; have H2 := H.drop1.drop1.drop1.drop1.drop1; exact ⟨A4, c4, true, rfl, (fun h => by cases h), vec_len H2.get0, H2.upd0 (upd_rdr_of_vec H2.get0 lenRThing (by decide))⟩)
            · skip
              refine tw_buildSlice H rfl rfl Try.underlying46 info59 rfl (fun ρ k => bs1 k rfl) (by decide) (by decide) (fill_RThing_1 _ _ _ _) rfl rfl rfl ?_
              intro b7 w7 hb7 H
              refine ⟨(by exact ⟨_, H.get3⟩), ?_⟩
              refine th_one 0 (by kernel_rfl) ?_
              refine tw_buildSlice0 H rfl rfl Try.underlying46 info59 rfl rfl rfl ?_
              intro b6 w16 hb6 H
              have H := H.upd0 (upd_vec_of_blk (L := ([] : List RThing)) (enc := encRThing) (sz := 4) H.get0 rfl lenRThing (by simp))
              refine ⟨(by exact ⟨_, H.get4⟩), ?_⟩
              refine th_one 3 (by kernel_rfl) ?_
              (refine tw_append (M := zR (dropT id X)) (L := ([] : List RThing)) H.get0 (opt_rd hbo (H.rd0 hR) H.get2) rfl rfl rfl rfl Try.underlying46 info59 rfl rfl (show Try.t59.bytes = 32 from rfl) rfl (by decide) lenRThing oneRThing (by rw [List.length_nil]; omega) (by rw [List.length_nil]; unfold maxLen; omega) rfl rfl rfl ?_; intro A2 c2 w20 U; have H := H.upd0 U; clear U; rw [List.nil_append] at H ⊢; refine ⟨(by exact ⟨_, H.get4⟩), ?_⟩)
              refine th_one 10 (by kernel_rfl) ?_
              (refine tw_append (M := [toR ⟨id, last + 1, due⟩ 0]) (L := zR (dropT id X)) H.get0 (rd_blk [toR ⟨id, last + 1, due⟩ 0] H.get1 rfl lenRThing) rfl rfl rfl rfl Try.underlying46 info59 rfl rfl (show Try.t59.bytes = 32 from rfl) rfl (by decide) lenRThing oneRThing (by rw [List.length_singleton]; omega) (by rw [List.length_singleton]; unfold maxLen; omega) rfl rfl rfl ?_; intro A3 c3 w30 U; have H := H.upd0 U; clear U; refine ⟨(by exact ⟨_, H.get4⟩), ?_⟩)
              refine th_one 11 (by kernel_rfl) ?_
              refine tw_call (SortedR_c A3 c3 (zR (dropT id X) ++ [toR ⟨id, last + 1, due⟩ 0]) _ (by exact vec_rd H.get0 lenRThing (by decide)) (by simp; omega)) rfl rfl rfl rfl Try.call105 rfl rfl rfl ?_
              rintro _ w68 ⟨A4, c4, rfl, HC⟩
              have H := H.call0r HC
              refine ⟨(by exact ⟨_, H.get5⟩), ?_⟩
              refine th_take 12 rfl (by kernel_rfl) (by kernel_rfl) (by kernel_rfl) ((by exact ⟨_, H.get5⟩)) (fun _ hS => ov_fieldAddr rfl Try.underlying85 rfl (Try.sizeOf46 _) (by decide) rfl) rfl rfl rfl ?_
              refine th_one 13 (by kernel_rfl) ?_
              (refine tw_store H.get5 rfl rfl (Try.sizeOf46 _) rfl rfl rfl rfl rfl rfl rfl ?_; intro w69 U; have H := H.upd5 U; clear U)
              try simp only [List.set_cons_zero, List.set_cons_succ, Nat.zero_add] at H
              refine ⟨(by exact ⟨_, H.get5⟩), ?_⟩
              refine th_done (by kernel_rfl) ?_
              refine hK25 _ _ (TrC.keep [30, 18, 14, 8, 7, 6, 3, 1, 2] ?_)
              show TrC _ _ _ _ [(30, _), (18, _), (14, _), (8, _), (7, _), (6, _), (3, _), (1, _), (2, _)] _ _
              refine tr_seq (fun K31 hK31 => ?_)
              -- region 10: ref.go:65
              refine tr_held (fun w' => (blk b1 85 [.int .i64 now, .int .u64 (last + 1), .slice A4 ((sortR (zR (dropT id X) ++ [toR ⟨id, last + 1, due⟩ 0]))).length c4]).holds w') mixed rfl H ?_
              intro w70 H
              refine th_take 0 rfl (by kernel_rfl) (by kernel_rfl) (by kernel_rfl) (H.get5) (fun _ hS => ov_load_blkN hS rfl (Try.isAgg85 _) (Try.sizeOf85 _) rfl rfl rfl) rfl rfl rfl ?_
              refine th_take 1 rfl (by kernel_rfl) (by kernel_rfl) (by kernel_rfl) (H.get5) (fun _ hS => ov_fieldAddr rfl Try.underlying85 rfl (Try.sizeOf28 _) (by decide) rfl) rfl rfl rfl ?_
              refine th_take 2 rfl (by kernel_rfl) (by kernel_rfl) (by kernel_rfl) (H.get5) (fun _ hS => ov_load_blk hS rfl (Try.isAgg28 _) rfl rfl rfl) rfl rfl rfl ?_
              refine th_one 3 (by kernel_rfl) ?_
              (refine tw_storeW H.get4 rfl rfl (Try.sizeOf85 _) rfl rfl rfl rfl rfl rfl rfl rfl ?_; intro w71 U; have H := H.upd4 U; clear U)
              refine ⟨H.get5, ?_⟩
              refine th_take 4 rfl (by kernel_rfl) (by kernel_rfl) (by kernel_rfl) (H.get5) (fun _ hS => ov_assign rfl rfl) rfl rfl rfl ?_
              refine th_take 5 rfl (by kernel_rfl) (by kernel_rfl) (by kernel_rfl) (H.get5) (fun _ hS => ov_assign rfl rfl) rfl rfl rfl ?_
              refine th_done (by kernel_rfl) ?_
              refine hK31 _ _ (TrC.keep [8, 7, 30, 18, 14, 6, 3, 1, 2] ?_)
              show TrC _ _ _ _ [(8, _), (7, _), (30, _), (18, _), (14, _), (6, _), (3, _), (1, _), (2, _)] _ _
              refine tr_ret (post_ret3 (.inr rfl) rfl (by exact ⟨_, rfl, res_blkN H.get4 (Try.isAgg85 _) (Try.sizeOf85 _) rfl rfl⟩) rfl rfl ?_)
              (have he : setE last X id due = 0 := (by unfold setE; rw [if_neg (by omega), if_neg (by omega), if_neg (by rw [hix]; simp; omega)]); unfold setN setR; rw [if_pos he, if_pos he, setS_ok he, he]; have H2 := H.drop1.drop1.drop1.drop1.drop1; exact ⟨A4, c4, true, rfl, (fun h => by cases h), vec_len H2.get0, H2.upd0 (upd_rdr_of_vec H2.get0 lenRThing (by decide))⟩)
          · skip
            refine tw_buildSlice H rfl rfl Try.underlying46 info59 rfl (fun ρ k => bs1 k rfl) (by decide) (by decide) (fill_RThing_1 _ _ _ _) rfl rfl rfl ?_
            intro b7 w7 hb7 H
            refine ⟨(by exact ⟨_, H.get3⟩), ?_⟩
            refine th_two 0 2 (by kernel_rfl) ?_ ?_
            · skip
              refine tw_buildSlice0 H rfl rfl Try.underlying46 info59 rfl rfl rfl ?_
              intro b6 w16 hb6 H
              have H := H.upd0 (upd_vec_of_blk (L := ([] : List RThing)) (enc := encRThing) (sz := 4) H.get0 rfl lenRThing (by simp))
              refine ⟨(by exact ⟨_, H.get4⟩), ?_⟩
              refine th_one 2 (by kernel_rfl) ?_
              refine tw_val (ov_load_blk H.get4 rfl (Try.isAgg46 _) rfl rfl rfl) rfl ((by exact ⟨_, H.get4⟩)) rfl rfl rfl ?_
              refine th_one 3 (by kernel_rfl) ?_
              (refine tw_append (M := zR (dropT id X)) (L := ([] : List RThing)) H.get0 (opt_rd hbo (H.rd0 hR) H.get2) rfl rfl rfl rfl Try.underlying46 info59 rfl rfl (show Try.t59.bytes = 32 from rfl) rfl (by decide) lenRThing oneRThing (by rw [List.length_nil]; omega) (by rw [List.length_nil]; unfold maxLen; omega) rfl rfl rfl ?_; intro A2 c2 w20 U; have H := H.upd0 U; clear U; rw [List.nil_append] at H ⊢; refine ⟨(by exact ⟨_, H.get4⟩), ?_⟩)
              refine th_one 10 (by kernel_rfl) ?_
              (refine tw_append (M := [toR ⟨id, last + 1, due⟩ 0]) (L := zR (dropT id X)) H.get0 (rd_blk [toR ⟨id, last + 1, due⟩ 0] H.get1 rfl lenRThing) rfl rfl rfl rfl Try.underlying46 info59 rfl rfl (show Try.t59.bytes = 32 from rfl) rfl (by decide) lenRThing oneRThing (by rw [List.length_singleton]; omega) (by rw [List.length_singleton]; unfold maxLen; omega) rfl rfl rfl ?_; intro A3 c3 w30 U; have H := H.upd0 U; clear U; refine ⟨(by exact ⟨_, H.get4⟩), ?_⟩)
              refine th_one 11 (by kernel_rfl) ?_
              refine tw_call (SortedR_c A3 c3 (zR (dropT id X) ++ [toR ⟨id, last + 1, due⟩ 0]) _ (by exact vec_rd H.get0 lenRThing (by decide)) (by simp; omega)) rfl rfl rfl rfl Try.call105 rfl rfl rfl ?_
              rintro _ w72 ⟨A4, c4, rfl, HC⟩
              have H := H.call0r HC
              refine ⟨(by exact ⟨_, H.get5⟩), ?_⟩
              refine th_take 12 rfl (by kernel_rfl) (by kernel_rfl) (by kernel_rfl) ((by exact ⟨_, H.get5⟩)) (fun _ hS => ov_fieldAddr rfl Try.underlying85 rfl (Try.sizeOf46 _) (by decide) rfl) rfl rfl rfl ?_
              refine th_one 13 (by kernel_rfl) ?_
              (refine tw_store H.get5 rfl rfl (Try.sizeOf46 _) rfl rfl rfl rfl rfl rfl rfl ?_; intro w73 U; have H := H.upd5 U; clear U)
              try simp only [List.set_cons_zero, List.set_cons_succ, Nat.zero_add] at H
              refine ⟨(by exact ⟨_, H.get5⟩), ?_⟩
              refine th_done (by kernel_rfl) ?_
              refine hK25 _ _ (TrC.keep [30, 18, 14, 8, 7, 6, 3, 1, 2] ?_)
              show TrC _ _ _ _ [(30, _), (18, _), (14, _), (8, _), (7, _), (6, _), (3, _), (1, _), (2, _)] _ _
              refine tr_seq (fun K32 hK32 => ?_)
              -- region 10: ref.go:65
              refine tr_held (fun w' => (blk b1 85 [.int .i64 now, .int .u64 (last + 1), .slice A4 ((sortR (zR (dropT id X) ++ [toR ⟨id, last + 1, due⟩ 0]))).length c4]).holds w') mixed rfl H ?_
              intro w74 H
              refine th_take 0 rfl (by kernel_rfl) (by kernel_rfl) (by kernel_rfl) (H.get5) (fun _ hS => ov_load_blkN hS rfl (Try.isAgg85 _) (Try.sizeOf85 _) rfl rfl rfl) rfl rfl rfl ?_
              refine th_take 1 rfl (by kernel_rfl) (by kernel_rfl) (by kernel_rfl) (H.get5) (fun _ hS => ov_fieldAddr rfl Try.underlying85 rfl (Try.sizeOf28 _) (by decide) rfl) rfl rfl rfl ?_
              refine th_take 2 rfl (by kernel_rfl) (by kernel_rfl) (by kernel_rfl) (H.get5) (fun _ hS => ov_load_blk hS rfl (Try.isAgg28 _) rfl rfl rfl) rfl rfl rfl ?_
              refine th_one 3 (by kernel_rfl) ?_
              (refine tw_storeW H.get4 rfl rfl (Try.sizeOf85 _) rfl rfl rfl rfl rfl rfl rfl rfl ?_; intro w75 U; have H := H.upd4 U; clear U)
              refine ⟨H.get5, ?_⟩
              refine th_take 4 rfl (by kernel_rfl) (by kernel_rfl) (by kernel_rfl) (H.get5) (fun _ hS => ov_assign rfl rfl) rfl rfl rfl ?_
              refine th_take 5 rfl (by kernel_rfl) (by kernel_rfl) (by kernel_rfl) (H.get5) (fun _ hS => ov_assign rfl rfl) rfl rfl rfl ?_
              refine th_done (by kernel_rfl) ?_
              refine hK32 _ _ (TrC.keep [8, 7, 30, 18, 14, 6, 3, 1, 2] ?_)
              show TrC _ _ _ _ [(8, _), (7, _), (30, _), (18, _), (14, _), (6, _), (3, _), (1, _), (2, _)] _ _
              refine tr_ret (post_ret3 (.inr rfl) rfl (by exact ⟨_, rfl, res_blkN H.get4 (Try.isAgg85 _) (Try.sizeOf85 _) rfl rfl⟩) rfl rfl ?_)
              (have he : setE last X id due = 0 := (by unfold setE; rw [if_neg (by omega), if_neg (by omega), if_neg (by rw [hix]; simp; omega)]); unfold setN setR; rw [if_pos he, if_pos he, setS_ok he, he]; have H2 := H.drop1.drop1.drop1.drop1.drop1; exact ⟨A4, c4, true, rfl, (fun h => by cases h), vec_len H2.get0, H2.upd0 (upd_rdr_of_vec H2.get0 lenRThing (by decide))⟩)
            · skip
              refine tw_val (ov_load_blk H.get3 rfl (Try.isAgg46 _) rfl rfl rfl) rfl ((by exact ⟨_, H.get3⟩)) rfl rfl rfl ?_
              refine th_one 0 (by kernel_rfl) ?_
              refine tw_buildSlice0 H rfl rfl Try.underlying46 info59 rfl rfl rfl ?_
              intro b6 w16 hb6 H
              have H := H.upd0 (upd_vec_of_blk (L := ([] : List RThing)) (enc := encRThing) (sz := 4) H.get0 rfl lenRThing (by simp))
              refine ⟨(by exact ⟨_, H.get4⟩), ?_⟩
              refine th_one 3 (by kernel_rfl) ?_
              (refine tw_append (M := zR (dropT id X)) (L := ([] : List RThing)) H.get0 (opt_rd hbo (H.rd0 hR) H.get2) rfl rfl rfl rfl Try.underlying46 info59 rfl rfl (show Try.t59.bytes = 32 from rfl) rfl (by decide) lenRThing oneRThing (by rw [List.length_nil]; omega) (by rw [List.length_nil]; unfold maxLen; omega) rfl rfl rfl ?_; intro A2 c2 w20 U; have H := H.upd0 U; clear U; rw [List.nil_append] at H ⊢; refine ⟨(by exact ⟨_, H.get4⟩), ?_⟩)
              refine th_one 10 (by kernel_rfl) ?_
              (refine tw_append (M := [toR ⟨id, last + 1, due⟩ 0]) (L := zR (dropT id X)) H.get0 (rd_blk [toR ⟨id, last + 1, due⟩ 0] H.get1 rfl lenRThing) rfl rfl rfl rfl Try.underlying46 info59 rfl rfl (show Try.t59.bytes = 32 from rfl) rfl (by decide) lenRThing oneRThing (by rw [List.length_singleton]; omega) (by rw [List.length_singleton]; unfold maxLen; omega) rfl rfl rfl ?_; intro A3 c3 w30 U; have H := H.upd0 U; clear U; refine ⟨(by exact ⟨_, H.get4⟩), ?_⟩)
              refine th_one 11 (by kernel_rfl) ?_
              refine tw_call (SortedR_c A3 c3 (zR (dropT id X) ++ [toR ⟨id, last + 1, due⟩ 0]) _ (by exact vec_rd H.get0 lenRThing (by decide)) (by simp; omega)) rfl rfl rfl rfl Try.call105 rfl rfl rfl ?_
              rintro _ w76 ⟨A4, c4, rfl, HC⟩
              have H := H.call0r HC
              refine ⟨(by exact ⟨_, H.get5⟩), ?_⟩
              refine th_take 12 rfl (by kernel_rfl) (by kernel_rfl) (by kernel_rfl) ((by exact ⟨_, H.get5⟩)) (fun _ hS => ov_fieldAddr rfl Try.underlying85 rfl (Try.sizeOf46 _) (by decide) rfl) rfl rfl rfl ?_
              refine th_one 13 (by kernel_rfl) ?_
              (refine tw_store H.get5 rfl rfl (Try.sizeOf46 _) rfl rfl rfl rfl rfl rfl rfl ?_; intro w77 U; have H := H.upd5 U; clear U)
              try simp only [List.set_cons_zero, List.set_cons_succ, Nat.zero_add] at H
              refine ⟨(by exact ⟨_, H.get5⟩), ?_⟩
              refine th_done (by kernel_rfl) ?_
              refine hK25 _ _ (TrC.keep [30, 18, 14, 8, 7, 6, 3, 1, 2] ?_)
              show TrC _ _ _ _ [(30, _), (18, _), (14, _), (8, _), (7, _), (6, _), (3, _), (1, _), (2, _)] _ _
              refine tr_seq (fun K33 hK33 => ?_)
              -- region 10: ref.go:65
              refine tr_held (fun w' => (blk b1 85 [.int .i64 now, .int .u64 (last + 1), .slice A4 ((sortR (zR (dropT id X) ++ [toR ⟨id, last + 1, due⟩ 0]))).length c4]).holds w') mixed rfl H ?_
              intro w78 H
              refine th_take 0 rfl (by kernel_rfl) (by kernel_rfl) (by kernel_rfl) (H.get5) (fun _ hS => ov_load_blkN hS rfl (Try.isAgg85 _) (Try.sizeOf85 _) rfl rfl rfl) rfl rfl rfl ?_
              refine th_take 1 rfl (by kernel_rfl) (by kernel_rfl) (by kernel_rfl) (H.get5) (fun _ hS => ov_fieldAddr rfl Try.underlying85 rfl (Try.sizeOf28 _) (by decide) rfl) rfl rfl rfl ?_
              refine th_take 2 rfl (by kernel_rfl) (by kernel_rfl) (by kernel_rfl) (H.get5) (fun _ hS => ov_load_blk hS rfl (Try.isAgg28 _) rfl rfl rfl) rfl rfl rfl ?_
              refine th_one 3 (by kernel_rfl) ?_
              (refine tw_storeW H.get4 rfl rfl (Try.sizeOf85 _) rfl rfl rfl rfl rfl rfl rfl rfl ?_; intro w79 U; have H := H.upd4 U; clear U)
              refine ⟨H.get5, ?_⟩
              refine th_take 4 rfl (by kernel_rfl) (by kernel_rfl) (by kernel_rfl) (H.get5) (fun _ hS => ov_assign rfl rfl) rfl rfl rfl ?_
              refine th_take 5 rfl (by kernel_rfl) (by kernel_rfl) (by kernel_rfl) (H.get5) (fun _ hS => ov_assign rfl rfl) rfl rfl rfl ?_
              refine th_done (by kernel_rfl) ?_
              refine hK33 _ _ (TrC.keep [8, 7, 30, 18, 14, 6, 3, 1, 2] ?_)
              show TrC _ _ _ _ [(8, _), (7, _), (30, _), (18, _), (14, _), (6, _), (3, _), (1, _), (2, _)] _ _
              refine tr_ret (post_ret3 (.inr rfl) rfl (by exact ⟨_, rfl, res_blkN H.get4 (Try.isAgg85 _) (Try.sizeOf85 _) rfl rfl⟩) rfl rfl ?_)
              (have he : setE last X id due = 0 := (by unfold setE; rw [if_neg (by omega), if_neg (by omega), if_neg (by rw [hix]; simp; omega)]); unfold setN setR; rw [if_pos he, if_pos he, setS_ok he, he]; have H2 := H.drop1.drop1.drop1.drop1.drop1; exact ⟨A4, c4, true, rfl, (fun h => by cases h), vec_len H2.get0, H2.upd0 (upd_rdr_of_vec H2.get0 lenRThing (by decide))⟩)

/-! curfew/curfewlaw13.do -/
set_option maxRecDepth 20000 in
theorem do13_r (B : Option Addr) (c : Nat) (b : Nat) (now last : Int) (X : List Thing) (L : List Res) (w : World) (hX : BookX b now last X L) (hU : UpT X) (hc : (zR X).length ≤ c) (hRR : (rdr B 4 ((zR X).map encRThing)).holds w) (hD : ∀ x, (rdr B 4 ((zR X).map encRThing)).foot x → ¬ (pack L).foot x) (hO : (pack L).holds w) (q : DOp) : Does Try.prog 38 #[.pointer (some ⟨b, 0, none⟩), .agg #[.int .i64 now, .int .u64 last, .slice B ((zR X)).length c], .agg #[.int .i64 q.kind, .int .u64 q.id, .int .i64 q.at_]] w (fun v w' => ∃ A' c' bo, v = .tuple #[.agg #[.int .i64 (dN now q), .int .u64 (dL last X q), .slice A' ((zR (dX now last X q))).length c'], .bool true] ∧ (bo = false → A' = B ∧ zR (dX now last X q) = (zR X)) ∧ (zR (dX now last X q)).length ≤ c' ∧ ∃ L', BookX b (dN now q) (dL last X q) (dX now last X q) L' ∧ SH w (pack L).foot [optV bo A' (zR (dX now last X q)), pack L'] w') := by
  refine does_enter3 Try.func38 rfl Try.ntmps38 rfl ?_
  have H := SH.own1 hO
  obtain ⟨hids, hdue, hfew, hnow, hla⟩ := bookX_of hX
  have hzl := zR_len X
  refine tr_seq (fun K1 hK1 => ?_)
  -- region 0: law.go:45
  refine tr_region ?_
  refine tr_box H rfl rfl rfl rfl rfl rfl ?_
  intro b1 w1 hb1 H
  refine tr_box H rfl rfl rfl rfl rfl rfl ?_
  intro b2 w2 hb2 H
  refine tr_alloc H rfl (Try.zeroValue85 _) rfl rfl rfl rfl ?_
  intro b3 w3 hb3 H
  refine tr_val (ov_assign rfl rfl) rfl rfl rfl ?_
  refine tr_nil (hK1 _ _ (TrC.keep [7, 6, 5, 4, 0] ?_))
  show TrC _ _ _ _ [(7, _), (6, _), (5, _), (4, _), (0, _)] _ _
  refine tr_seq (fun K2 hK2 => ?_)
  -- region 1: law.go:46
  refine tr_region ?_
  refine tr_val (ov_fieldAddr rfl Try.underlying74 rfl (Try.sizeOf3 _) (by decide) rfl) rfl rfl rfl ?_
  refine tr_val (ov_load_blk H.get1 rfl (Try.isAgg3 _) rfl rfl rfl) rfl rfl rfl ?_
  refine tr_nil (hK2 _ _ (TrC.keep [27, 7, 6, 5, 4, 0] ?_))
  show TrC _ _ _ _ [(27, _), (7, _), (6, _), (5, _), (4, _), (0, _)] _ _
  refine tr_block ?_
  refine tr_seq (fun K3 hK3 => ?_)
  -- region 5: law.go:47
  refine tr_region ?_
  refine tr_val (ov_eql rfl rfl rfl) rfl rfl rfl ?_
  refine tr_val (ov_assign rfl rfl) rfl rfl rfl ?_
  refine tr_nil (hK3 _ _ (TrC.keep [56, 27, 7, 6, 5, 4, 0] ?_))
  show TrC _ _ _ _ [(56, _), (27, _), (7, _), (6, _), (5, _), (4, _), (0, _)] _ _
  refine tr_cond rfl (fun c56 => ?_) (fun c56 => ?_)
  · skip
    refine tr_seq (fun K4 hK4 => ?_)
    -- region 6: law.go:48
    refine tr_region ?_
    refine tr_val (ov_load_blkN H.get2 rfl (Try.isAgg85 _) (Try.sizeOf85 _) rfl rfl rfl) rfl rfl rfl ?_
    refine tr_val (ov_fieldAddr rfl Try.underlying74 rfl (Try.sizeOf28 _) (by decide) rfl) rfl rfl rfl ?_
    refine tr_val (ov_load_blk H.get1 rfl (Try.isAgg28 _) rfl rfl rfl) rfl rfl rfl ?_
    refine tr_call (ClearR_r B c (zR X) now last _ (by omega) hc (rdr_rd (H.resF' hRR hD)) q.id) rfl rfl rfl Try.call74 rfl rfl rfl ?_
    rintro _ w4 ⟨A1, c1, bo, rfl, hbo, hc1, HC⟩
    have H := H.call0r HC
    rw [dropR_z] at H hc1 hbo ⊢
    rw [rOr_z, isSome_z]
    refine tr_val (ov_move rfl rfl) rfl rfl rfl ?_
    refine tr_val (ov_extract rfl rfl rfl) rfl rfl rfl ?_
    refine tr_val (ov_extract rfl rfl rfl) rfl rfl rfl ?_
    refine tr_val (ov_extract rfl rfl rfl) rfl rfl rfl ?_
    refine tr_alloc H rfl (Try.zeroValue85 _) rfl rfl rfl rfl ?_
    intro b5 w5 hb5 H
    refine tr_alloc H rfl (Try.zeroValue59 _) rfl rfl rfl rfl ?_
    intro b6 w6 hb6 H
    (refine tr_storeW H.get1 rfl (Try.sizeOf85 _) rfl rfl rfl rfl rfl rfl rfl rfl ?_; intro w7 U; have H := H.upd1 U; clear U)
    (refine tr_storeW H.get0 rfl (Try.sizeOf59 _) rfl rfl rfl rfl rfl rfl rfl rfl ?_; intro w8 U; have H := H.upd0 U; clear U)
    refine tr_val (ov_assign rfl rfl) rfl rfl rfl ?_
    refine tr_nil (hK4 _ _ (TrC.keep [10, 9, 8, 56, 27, 7, 6, 5, 4, 0] ?_))
    show TrC _ _ _ _ [(10, _), (9, _), (8, _), (56, _), (27, _), (7, _), (6, _), (5, _), (4, _), (0, _)] _ _
    refine tr_seq (fun K5 hK5 => ?_)
    -- region 7: law.go:49
    refine tr_region ?_
    refine tr_val (ov_move rfl rfl) rfl rfl rfl ?_
    refine tr_val (ov_fieldAddr rfl Try.underlying74 rfl (Try.sizeOf28 _) (by decide) rfl) rfl rfl rfl ?_
    refine tr_val (ov_load_blk H.get4 rfl (Try.isAgg28 _) rfl rfl rfl) rfl rfl rfl ?_
    refine tr_call (bClear_c b now last X L _ hX H.get6 q.id) rfl rfl rfl Try.call30 rfl rfl rfl ?_
    rintro _ w9 ⟨rfl, L1, hX1, HC⟩
    have H := H.top6.call1 HC
    refine tr_val (ov_move rfl rfl) rfl rfl rfl ?_
    refine tr_val (ov_extract rfl rfl rfl) rfl rfl rfl ?_
    refine tr_val (ov_extract rfl rfl rfl) rfl rfl rfl ?_
    refine tr_alloc H rfl (Try.zeroValue30 _) rfl rfl rfl rfl ?_
    intro b7 w10 hb7 H
    (refine tr_storeW H.get0 rfl (Try.sizeOf30 _) rfl rfl rfl rfl rfl rfl rfl rfl ?_; intro w11 U; have H := H.upd0 U; clear U)
    refine tr_val (ov_assign rfl rfl) rfl rfl rfl ?_
    refine tr_nil (hK5 _ _ (TrC.keep [12, 11, 10, 9, 8, 56, 27, 7, 6, 5, 4, 0] ?_))
    show TrC _ _ _ _ [(12, _), (11, _), (10, _), (9, _), (8, _), (56, _), (27, _), (7, _), (6, _), (5, _), (4, _), (0, _)] _ _
    refine tr_seq (fun K6 hK6 => ?_)
    -- region 8: law.go:50
    refine tr_held (fun w' => (blk b5 85 [.int .i64 now, .int .u64 last, .slice A1 ((zR (dropT q.id X))).length c1]).holds w' ∧ (blk b7 30 [.int .u64 (tOr (findT q.id X)).id, .int .u64 (tOr (findT q.id X)).gen, .int .i64 (tOr (findT q.id X)).due]).holds w' ∧ (blk b6 59 [.int .u64 (toR (tOr (findT q.id X)) 0).id, .int .u64 (toR (tOr (findT q.id X)) 0).gen, .int .i64 (toR (tOr (findT q.id X)) 0).due, .int .i64 (toR (tOr (findT q.id X)) 0).slot]).holds w') mixed rfl H ?_
    intro w12 H
    refine th_take 0 rfl (by kernel_rfl) (by kernel_rfl) (by kernel_rfl) (⟨H.get3, H.get0, H.get2⟩) (fun _ hS => ov_load_blkN hS.1 rfl (Try.isAgg85 _) (Try.sizeOf85 _) rfl rfl rfl) rfl rfl rfl ?_
    refine th_take 1 rfl (by kernel_rfl) (by kernel_rfl) (by kernel_rfl) (⟨H.get3, H.get0, H.get2⟩) (fun _ hS => ov_move rfl rfl) rfl rfl rfl ?_
    refine th_take 2 rfl (by kernel_rfl) (by kernel_rfl) (by kernel_rfl) (⟨H.get3, H.get0, H.get2⟩) (fun _ hS => ov_move rfl rfl) rfl rfl rfl ?_
    refine th_take 3 rfl (by kernel_rfl) (by kernel_rfl) (by kernel_rfl) (⟨H.get3, H.get0, H.get2⟩) (fun _ hS => ov_eqlb rfl Try.underlying4 rfl rfl) rfl rfl rfl ?_
    refine th_take 4 rfl (by kernel_rfl) (by kernel_rfl) (by kernel_rfl) (⟨H.get3, H.get0, H.get2⟩) (fun _ hS => ov_move rfl rfl) rfl rfl rfl ?_
    refine th_split (t := 77) rfl (fun s77 => ?_) (fun s77 => ?_)
    · skip
      refine th_take 5 rfl (by kernel_rfl) (by kernel_rfl) (by kernel_rfl) (⟨H.get3, H.get0, H.get2⟩) (fun _ hS => ov_load_blkN hS.2.1 rfl (Try.isAgg30 _) (Try.sizeOf30 _) rfl rfl rfl) rfl rfl rfl ?_
      refine th_take 7 rfl (by kernel_rfl) (by kernel_rfl) (by kernel_rfl) (⟨H.get3, H.get0, H.get2⟩) (fun _ hS => ov_load_blkN hS.2.2 rfl (Try.isAgg59 _) (Try.sizeOf59 _) rfl rfl rfl) rfl rfl rfl ?_
      refine th_one 6 (by kernel_rfl) ?_
      refine tw_call (Plain_c (tOr (findT q.id X)) _) rfl rfl rfl rfl Try.call65 rfl rfl rfl ?_
      rintro _ w13 ⟨rfl, HC⟩
      have H := H.call0n HC
      refine ⟨⟨H.get3, H.get0, H.get2⟩, ?_⟩
      refine th_take 8 rfl (by kernel_rfl) (by kernel_rfl) (by kernel_rfl) (⟨H.get3, H.get0, H.get2⟩) (fun _ hS => ov_eqRT (s := toR (tOr (findT q.id X)) 0) (t := toR (tOr (findT q.id X)) 0) rfl rfl rfl) rfl rfl rfl ?_
      refine th_take 9 rfl (by kernel_rfl) (by kernel_rfl) (by kernel_rfl) (⟨H.get3, H.get0, H.get2⟩) (fun _ hS => ov_pick (vb := undef) rfl rfl rfl rfl) rfl rfl rfl ?_
      refine th_one 10 (by kernel_rfl) ?_
      (refine tw_storeW H.get5 rfl rfl (Try.sizeOf85 _) rfl rfl rfl rfl rfl rfl rfl rfl ?_; intro w14 U; have H := H.upd5 U; clear U)
      refine ⟨⟨H.get3, H.get0, H.get2⟩, ?_⟩
      refine th_take 11 rfl (by kernel_rfl) (by kernel_rfl) (by kernel_rfl) (⟨H.get3, H.get0, H.get2⟩) (fun _ hS => ov_assign rfl rfl) rfl rfl rfl ?_
      refine th_done (by kernel_rfl) ?_
      refine hK6 _ _ (TrC.keep [7, 11, 9, 8, 56, 27, 6, 5, 4, 0] ?_)
      show TrC _ _ _ _ [(7, _), (11, _), (9, _), (8, _), (56, _), (27, _), (6, _), (5, _), (4, _), (0, _)] _ _
      refine tr_ret (post_ret2 (.inr rfl) rfl (by exact ⟨_, rfl, res_blkN H.get5 (Try.isAgg85 _) (Try.sizeOf85 _) rfl rfl⟩) rfl ?_)
      (have eN : dN now q = now := (by unfold dN; rw [if_neg (by omega)]); have eL : dL last X q = last := (by unfold dL; rw [if_pos (by omega)]); have eX : dX now last X q = dropT q.id X := (by unfold dX; rw [if_pos (by omega)]); rw [eN, eL, eX]; exact ⟨A1, c1, bo, tup_t (decide_eq_true rfl), hbo, hc1, L1, hX1, H.drop0.drop1.drop1.drop2.drop2.drop2.top1⟩)
    · exact absurd (by simp) s77
  · skip
    refine tr_seq (fun K7 hK7 => ?_)
    -- region 9: law.go:51
    refine tr_region ?_
    refine tr_val (ov_eql rfl rfl rfl) rfl rfl rfl ?_
    refine tr_val (ov_assign rfl rfl) rfl rfl rfl ?_
    refine tr_nil (hK7 _ _ (TrC.keep [83, 56, 27, 7, 6, 5, 4, 0] ?_))
    show TrC _ _ _ _ [(83, _), (56, _), (27, _), (7, _), (6, _), (5, _), (4, _), (0, _)] _ _
    refine tr_cond rfl (fun c83 => ?_) (fun c83 => ?_)
    · skip
      refine tr_seq (fun K8 hK8 => ?_)
      -- region 10: law.go:52
      refine tr_region ?_
      refine tr_val (ov_load_blkN H.get2 rfl (Try.isAgg85 _) (Try.sizeOf85 _) rfl rfl rfl) rfl rfl rfl ?_
      refine tr_val (ov_fieldAddr rfl Try.underlying74 rfl (Try.sizeOf2 _) (by decide) rfl) rfl rfl rfl ?_
      refine tr_val (ov_load_blk H.get1 rfl (Try.isAgg2 _) rfl rfl rfl) rfl rfl rfl ?_
      refine tr_call (AdvR13_r B c (zR X) now last _ (by omega) hc (rdr_rd (H.resF' hRR hD)) q.at_ (upD_z hU)) rfl rfl rfl Try.call75 rfl rfl rfl ?_
      rintro _ w15 ⟨Af, cf, A1, c1, bo, rfl, hbo, hc1, HC⟩
      have H := H.call0 HC
      rw [advXR_z, advFR_z hids hU] at H ⊢
      rw [advXR_z] at hc1 hbo
      refine tr_val (ov_move rfl rfl) rfl rfl rfl ?_
      refine tr_val (ov_extract rfl rfl rfl) rfl rfl rfl ?_
      refine tr_val (ov_extract rfl rfl rfl) rfl rfl rfl ?_
      refine tr_val (ov_extract rfl rfl rfl) rfl rfl rfl ?_
      refine tr_alloc H rfl (Try.zeroValue85 _) rfl rfl rfl rfl ?_
      intro b5 w16 hb5 H
      (refine tr_storeW H.get0 rfl (Try.sizeOf85 _) rfl rfl rfl rfl rfl rfl rfl rfl ?_; intro w17 U; have H := H.upd0 U; clear U)
      refine tr_val (ov_assign rfl rfl) rfl rfl rfl ?_
      refine tr_val (ov_assign rfl rfl) rfl rfl rfl ?_
      refine tr_nil (hK8 _ _ (TrC.keep [15, 14, 13, 83, 56, 27, 7, 6, 5, 4, 0] ?_))
      show TrC _ _ _ _ [(15, _), (14, _), (13, _), (83, _), (56, _), (27, _), (7, _), (6, _), (5, _), (4, _), (0, _)] _ _
      refine tr_seq (fun K9 hK9 => ?_)
      -- region 11: law.go:53
      refine tr_region ?_
      refine tr_val (ov_move rfl rfl) rfl rfl rfl ?_
      refine tr_val (ov_fieldAddr rfl Try.underlying74 rfl (Try.sizeOf2 _) (by decide) rfl) rfl rfl rfl ?_
      refine tr_val (ov_load_blk H.get4 rfl (Try.isAgg2 _) rfl rfl rfl) rfl rfl rfl ?_
      refine tr_call (bAdvance_c b now last X L _ hX H.get6 q.at_) rfl rfl rfl Try.call31 rfl rfl rfl ?_
      rintro _ w18 ⟨A5, c5, rfl, L1, hX1, HC⟩
      have H := H.top6.call1e HC
      have hfl : (advF now q.at_ X).length ≤ 256 := by unfold advF; split; (rw [(sortT_perm _).length_eq]; exact Nat.le_trans (List.length_filter_le _ _) hfew); simp
      have hzf := zR_len (advF now q.at_ X)
      refine tr_val (ov_move rfl rfl) rfl rfl rfl ?_
      refine tr_val (ov_extract rfl rfl rfl) rfl rfl rfl ?_
      refine tr_val (ov_extract rfl rfl rfl) rfl rfl rfl ?_
      refine tr_val (ov_assign rfl rfl) rfl rfl rfl ?_
      refine tr_val (ov_assign rfl rfl) rfl rfl rfl ?_
      refine tr_nil (hK9 _ _ (TrC.keep [17, 16, 15, 14, 13, 83, 56, 27, 7, 6, 5, 4, 0] ?_))
      show TrC _ _ _ _ [(17, _), (16, _), (15, _), (14, _), (13, _), (83, _), (56, _), (27, _), (7, _), (6, _), (5, _), (4, _), (0, _)] _ _
      refine tr_seq (fun K10 hK10 => ?_)
      -- region 12: law.go:54
      refine tr_held (fun w' => (blk b5 85 [.int .i64 (advN now q.at_), .int .u64 last, .slice A1 ((zR (advX now q.at_ X))).length c1]).holds w') mixed rfl H ?_
      intro w19 H
      refine th_take 0 rfl (by kernel_rfl) (by kernel_rfl) (by kernel_rfl) (H.get2) (fun _ hS => ov_load_blkN hS rfl (Try.isAgg85 _) (Try.sizeOf85 _) rfl rfl rfl) rfl rfl rfl ?_
      refine th_take 1 rfl (by kernel_rfl) (by kernel_rfl) (by kernel_rfl) (H.get2) (fun _ hS => ov_move rfl rfl) rfl rfl rfl ?_
      refine th_take 2 rfl (by kernel_rfl) (by kernel_rfl) (by kernel_rfl) (H.get2) (fun _ hS => ov_move rfl rfl) rfl rfl rfl ?_
      refine th_take 3 rfl (by kernel_rfl) (by kernel_rfl) (by kernel_rfl) (H.get2) (fun _ hS => ov_eql rfl rfl rfl) rfl rfl rfl ?_
      refine th_take 4 rfl (by kernel_rfl) (by kernel_rfl) (by kernel_rfl) (H.get2) (fun _ hS => ov_move rfl rfl) rfl rfl rfl ?_
      refine th_split (t := 104) rfl (fun s104 => ?_) (fun s104 => ?_)
      · skip
        refine th_take 5 rfl (by kernel_rfl) (by kernel_rfl) (by kernel_rfl) (H.get2) (fun _ hS => ov_move rfl rfl) rfl rfl rfl ?_
        refine th_take 6 rfl (by kernel_rfl) (by kernel_rfl) (by kernel_rfl) (H.get2) (fun _ hS => ov_move rfl rfl) rfl rfl rfl ?_
        refine th_one 7 (by kernel_rfl) ?_
        refine tw_call (Same_c A5 c5 (advF now q.at_ X) _ (vec_rd H.get0 lenThing (by decide)) (by omega) Af cf (zR (advF now q.at_ X)) (vec_rd H.get4 lenRThing (by decide)) (by omega)) rfl rfl rfl rfl Try.call25 rfl rfl rfl ?_
        rintro _ w20 ⟨rfl, HC⟩
        have H := H.call0n HC
        refine ⟨H.get2, ?_⟩
        refine th_take 8 rfl (by kernel_rfl) (by kernel_rfl) (by kernel_rfl) (H.get2) (fun _ hS => ov_pick (vb := undef) rfl rfl rfl rfl) rfl rfl rfl ?_
        refine th_one 9 (by kernel_rfl) ?_
        (refine tw_storeW H.get5 rfl rfl (Try.sizeOf85 _) rfl rfl rfl rfl rfl rfl rfl rfl ?_; intro w21 U; have H := H.upd5 U; clear U)
        refine ⟨H.get2, ?_⟩
        refine th_take 10 rfl (by kernel_rfl) (by kernel_rfl) (by kernel_rfl) (H.get2) (fun _ hS => ov_assign rfl rfl) rfl rfl rfl ?_
        refine th_done (by kernel_rfl) ?_
        refine hK10 _ _ (TrC.keep [7, 13, 83, 56, 27, 6, 5, 4, 0] ?_)
        show TrC _ _ _ _ [(7, _), (13, _), (83, _), (56, _), (27, _), (6, _), (5, _), (4, _), (0, _)] _ _
        refine tr_ret (post_ret2 (.inr rfl) rfl (by exact ⟨_, rfl, res_blkN H.get5 (Try.isAgg85 _) (Try.sizeOf85 _) rfl rfl⟩) rfl ?_)
        (have eN : dN now q = advN now q.at_ := (by unfold dN; rw [if_pos (by omega)]); have eL : dL last X q = last := (by unfold dL; rw [if_pos (by omega)]); have eX : dX now last X q = advX now q.at_ X := (by unfold dX; rw [if_neg (by omega), if_pos (by omega)]); rw [eN, eL, eX]; exact ⟨A1, c1, bo, tup_t (decide_eq_true (zR_plain _).symm), hbo, hc1, L1, hX1, H.drop0.drop1.drop2.drop2.drop2.drop2.top1⟩)
      · exact absurd rfl s104
    · skip
      refine tr_seq (fun K11 hK11 => ?_)
      -- region 13: law.go:55
      refine tr_region ?_
      refine tr_val (ov_eql rfl rfl rfl) rfl rfl rfl ?_
      refine tr_val (ov_assign rfl rfl) rfl rfl rfl ?_
      refine tr_nil (hK11 _ _ (TrC.keep [109, 83, 56, 27, 7, 6, 5, 4, 0] ?_))
      show TrC _ _ _ _ [(109, _), (83, _), (56, _), (27, _), (7, _), (6, _), (5, _), (4, _), (0, _)] _ _
      refine tr_cond rfl (fun c109 => ?_) (fun c109 => ?_)
      · skip
        refine tr_seq (fun K12 hK12 => ?_)
        -- region 14: law.go:56
        refine tr_region ?_
        refine tr_val (ov_move rfl rfl) rfl rfl rfl ?_
        refine tr_val (ov_fieldAddr rfl Try.underlying74 rfl (Try.sizeOf28 _) (by decide) rfl) rfl rfl rfl ?_
        refine tr_val (ov_load_blk H.get1 rfl (Try.isAgg28 _) rfl rfl rfl) rfl rfl rfl ?_
        refine tr_call (bGet_c b now last X L _ hX H.get3 q.id) rfl rfl rfl Try.call41 rfl rfl rfl ?_
        rintro _ w22 ⟨rfl, HC⟩
        have H := H.call0n HC
        refine tr_val (ov_move rfl rfl) rfl rfl rfl ?_
        refine tr_val (ov_extract rfl rfl rfl) rfl rfl rfl ?_
        refine tr_val (ov_extract rfl rfl rfl) rfl rfl rfl ?_
        refine tr_alloc H rfl (Try.zeroValue30 _) rfl rfl rfl rfl ?_
        intro b5 w23 hb5 H
        (refine tr_storeW H.get0 rfl (Try.sizeOf30 _) rfl rfl rfl rfl rfl rfl rfl rfl ?_; intro w24 U; have H := H.upd0 U; clear U)
        refine tr_val (ov_assign rfl rfl) rfl rfl rfl ?_
        refine tr_nil (hK12 _ _ (TrC.keep [19, 18, 109, 83, 56, 27, 7, 6, 5, 4, 0] ?_))
        show TrC _ _ _ _ [(19, _), (18, _), (109, _), (83, _), (56, _), (27, _), (7, _), (6, _), (5, _), (4, _), (0, _)] _ _
        refine tr_seq (fun K13 hK13 => ?_)
        -- region 15: law.go:57
        refine tr_region ?_
        refine tr_val (ov_fieldAddr rfl Try.underlying85 rfl (Try.sizeOf46 _) (by decide) rfl) rfl rfl rfl ?_
        refine tr_val (ov_load_blk H.get3 rfl (Try.isAgg46 _) rfl rfl rfl) rfl rfl rfl ?_
        refine tr_val (ov_fieldAddr rfl Try.underlying74 rfl (Try.sizeOf28 _) (by decide) rfl) rfl rfl rfl ?_
        refine tr_val (ov_load_blk H.get2 rfl (Try.isAgg28 _) rfl rfl rfl) rfl rfl rfl ?_
        refine tr_call (FindR_c B c (zR X) _ (rdr_rd (H.resF' hRR hD)) (by omega) q.id) rfl rfl rfl Try.call67 rfl rfl rfl ?_
        rintro _ w25 ⟨rfl, HC⟩
        have H := H.call0n HC
        refine tr_val (ov_assign rfl rfl) rfl rfl rfl ?_
        refine tr_nil (hK13 _ _ (TrC.keep [20, 19, 18, 109, 83, 56, 27, 7, 6, 5, 4, 0] ?_))
        show TrC _ _ _ _ [(20, _), (19, _), (18, _), (109, _), (83, _), (56, _), (27, _), (7, _), (6, _), (5, _), (4, _), (0, _)] _ _
        refine tr_seq (fun K14 hK14 => ?_)
        -- region 16: law.go:58
        have hi1 := idx_lt q.id (zR X)
        refine tr_held (fun w' => (blk b5 30 [.int .u64 (tOr (findT q.id X)).id, .int .u64 (tOr (findT q.id X)).gen, .int .i64 (tOr (findT q.id X)).due]).holds w' ∧ (blk b1 85 [.int .i64 now, .int .u64 last, .slice B ((zR X)).length c]).holds w' ∧ (rdr B 4 ((zR X).map encRThing)).holds w') mixed rfl H ?_
        intro w26 H
        refine th_take 0 rfl (by kernel_rfl) (by kernel_rfl) (by kernel_rfl) (⟨H.get0, H.get3, H.resF' hRR hD⟩) (fun _ hS => ov_load_blkN hS.2.1 rfl (Try.isAgg85 _) (Try.sizeOf85 _) rfl rfl rfl) rfl rfl rfl ?_
        refine th_take 1 rfl (by kernel_rfl) (by kernel_rfl) (by kernel_rfl) (⟨H.get0, H.get3, H.resF' hRR hD⟩) (fun _ hS => ov_move rfl rfl) rfl rfl rfl ?_
        refine th_take 2 rfl (by kernel_rfl) (by kernel_rfl) (by kernel_rfl) (⟨H.get0, H.get3, H.resF' hRR hD⟩) (fun _ hS => ov_move rfl rfl) rfl rfl rfl ?_
        refine th_take 3 rfl (by kernel_rfl) (by kernel_rfl) (by kernel_rfl) (⟨H.get0, H.get3, H.resF' hRR hD⟩) (fun _ hS => ov_geq rfl rfl rfl) rfl rfl rfl ?_
        refine th_take 4 rfl (by kernel_rfl) (by kernel_rfl) (by kernel_rfl) (⟨H.get0, H.get3, H.resF' hRR hD⟩) (fun _ hS => ov_eqlb rfl Try.underlying4 rfl rfl) rfl rfl rfl ?_
        refine th_take 5 rfl (by kernel_rfl) (by kernel_rfl) (by kernel_rfl) (⟨H.get0, H.get3, H.resF' hRR hD⟩) (fun _ hS => ov_move rfl rfl) rfl rfl rfl ?_
        refine th_split (t := 128) rfl (fun s128 => ?_) (fun s128 => ?_)
        · skip
          refine th_take 6 rfl (by kernel_rfl) (by kernel_rfl) (by kernel_rfl) (⟨H.get0, H.get3, H.resF' hRR hD⟩) (fun _ hS => ov_move rfl rfl) rfl rfl rfl ?_
          refine th_take 7 rfl (by kernel_rfl) (by kernel_rfl) (by kernel_rfl) (⟨H.get0, H.get3, H.resF' hRR hD⟩) (fun _ hS => ov_lss rfl rfl rfl) rfl rfl rfl ?_
          refine th_take 8 rfl (by kernel_rfl) (by kernel_rfl) (by kernel_rfl) (⟨H.get0, H.get3, H.resF' hRR hD⟩) (fun _ hS => ov_move rfl rfl) rfl rfl rfl ?_
          refine th_split (t := 131) rfl (fun s131 => ?_) (fun s131 => ?_)
          · skip
            refine th_take 9 rfl (by kernel_rfl) (by kernel_rfl) (by kernel_rfl) (⟨H.get0, H.get3, H.resF' hRR hD⟩) (fun _ hS => ov_load_blkN hS.1 rfl (Try.isAgg30 _) (Try.sizeOf30 _) rfl rfl rfl) rfl rfl rfl ?_
            refine th_take 10 rfl (by kernel_rfl) (by kernel_rfl) (by kernel_rfl) (⟨H.get0, H.get3, H.resF' hRR hD⟩) (fun _ hS => ov_build rfl (fun ρ k => bs0 k) (bld30 _)) rfl rfl rfl ?_
            refine th_take 11 rfl (by kernel_rfl) (by kernel_rfl) (by kernel_rfl) (⟨H.get0, H.get3, H.resF' hRR hD⟩) (fun _ hS => ov_eqTh (s := tOr (findT q.id X)) (t := ⟨0, 0, 0⟩) rfl rfl rfl) rfl rfl rfl ?_
            refine th_take 12 rfl (by kernel_rfl) (by kernel_rfl) (by kernel_rfl) (⟨H.get0, H.get3, H.resF' hRR hD⟩) (fun _ hS => ov_pick (vb := undef) rfl rfl rfl rfl) rfl rfl rfl ?_
            refine th_take 13 rfl (by kernel_rfl) (by kernel_rfl) (by kernel_rfl) (⟨H.get0, H.get3, H.resF' hRR hD⟩) (fun _ hS => ov_move rfl rfl) rfl rfl rfl ?_
            refine th_split (t := 136) rfl (fun s136 => ?_) (fun s136 => ?_)
            · skip
              refine th_pass 14 rfl (by kernel_rfl) (by kernel_rfl) (by kernel_rfl) (⟨H.get0, H.get3, H.resF' hRR hD⟩) rfl rfl rfl ?_
              refine th_pass 15 rfl (by kernel_rfl) (by kernel_rfl) (by kernel_rfl) (⟨H.get0, H.get3, H.resF' hRR hD⟩) rfl rfl rfl ?_
              refine th_pass 16 rfl (by kernel_rfl) (by kernel_rfl) (by kernel_rfl) (⟨H.get0, H.get3, H.resF' hRR hD⟩) rfl rfl rfl ?_
              refine th_pass 17 rfl (by kernel_rfl) (by kernel_rfl) (by kernel_rfl) (⟨H.get0, H.get3, H.resF' hRR hD⟩) rfl rfl rfl ?_
              refine th_pass 18 rfl (by kernel_rfl) (by kernel_rfl) (by kernel_rfl) (⟨H.get0, H.get3, H.resF' hRR hD⟩) rfl rfl rfl ?_
              refine th_pass 19 rfl (by kernel_rfl) (by kernel_rfl) (by kernel_rfl) (⟨H.get0, H.get3, H.resF' hRR hD⟩) rfl rfl rfl ?_
              refine th_pass 20 rfl (by kernel_rfl) (by kernel_rfl) (by kernel_rfl) (⟨H.get0, H.get3, H.resF' hRR hD⟩) rfl rfl rfl ?_
              refine th_pass 21 rfl (by kernel_rfl) (by kernel_rfl) (by kernel_rfl) (⟨H.get0, H.get3, H.resF' hRR hD⟩) rfl rfl rfl ?_
              refine th_pass 22 rfl (by kernel_rfl) (by kernel_rfl) (by kernel_rfl) (⟨H.get0, H.get3, H.resF' hRR hD⟩) rfl rfl rfl ?_
              refine th_pass 23 rfl (by kernel_rfl) (by kernel_rfl) (by kernel_rfl) (⟨H.get0, H.get3, H.resF' hRR hD⟩) rfl rfl rfl ?_
              refine th_pass 24 rfl (by kernel_rfl) (by kernel_rfl) (by kernel_rfl) (⟨H.get0, H.get3, H.resF' hRR hD⟩) rfl rfl rfl ?_
              refine th_pass 25 rfl (by kernel_rfl) (by kernel_rfl) (by kernel_rfl) (⟨H.get0, H.get3, H.resF' hRR hD⟩) rfl rfl rfl ?_
              refine th_take 26 rfl (by kernel_rfl) (by kernel_rfl) (by kernel_rfl) (⟨H.get0, H.get3, H.resF' hRR hD⟩) (fun _ hS => ov_pick (vb := undef) rfl rfl rfl rfl) rfl rfl rfl ?_
              refine th_take 27 rfl (by kernel_rfl) (by kernel_rfl) (by kernel_rfl) (⟨H.get0, H.get3, H.resF' hRR hD⟩) (fun _ hS => ov_pick (vb := undef) rfl rfl rfl rfl) rfl rfl rfl ?_
              refine th_one 28 (by kernel_rfl) ?_
              (refine tw_storeW H.get1 rfl rfl (Try.sizeOf85 _) rfl rfl rfl rfl rfl rfl rfl rfl ?_; intro w27 U; have H := H.upd1 U; clear U)
              refine ⟨⟨H.get0, H.get3, H.resF' hRR hD⟩, ?_⟩
              refine th_take 29 rfl (by kernel_rfl) (by kernel_rfl) (by kernel_rfl) (⟨H.get0, H.get3, H.resF' hRR hD⟩) (fun _ hS => ov_assign rfl rfl) rfl rfl rfl ?_
              refine th_done (by kernel_rfl) ?_
              refine hK14 _ _ (TrC.keep [7, 18, 109, 83, 56, 27, 6, 5, 4, 0] ?_)
              show TrC _ _ _ _ [(7, _), (18, _), (109, _), (83, _), (56, _), (27, _), (6, _), (5, _), (4, _), (0, _)] _ _
              refine tr_ret (post_ret2 (.inr rfl) rfl (by exact ⟨_, rfl, res_blkN H.get1 (Try.isAgg85 _) (Try.sizeOf85 _) rfl rfl⟩) rfl ?_)
              (have eN : dN now q = now := (by unfold dN; rw [if_neg (by omega)]); have eL : dL last X q = last := (by unfold dL; rw [if_pos (by omega)]); have eX : dX now last X q = X := (by unfold dX; rw [if_neg (by omega), if_neg (by omega), if_pos (by omega)]); rw [eN, eL, eX]; exact ⟨B, c, false, tup_t (rfl), fun _ => ⟨rfl, rfl⟩, hc, L, hX, H.drop0.drop0.drop0.drop0.optNil _ _⟩)
            · exact absurd (tOr_neg s131) s136
          · skip
            refine th_pass 9 rfl (by kernel_rfl) (by kernel_rfl) (by kernel_rfl) (⟨H.get0, H.get3, H.resF' hRR hD⟩) rfl rfl rfl ?_
            refine th_pass 10 rfl (by kernel_rfl) (by kernel_rfl) (by kernel_rfl) (⟨H.get0, H.get3, H.resF' hRR hD⟩) rfl rfl rfl ?_
            refine th_pass 11 rfl (by kernel_rfl) (by kernel_rfl) (by kernel_rfl) (⟨H.get0, H.get3, H.resF' hRR hD⟩) rfl rfl rfl ?_
            refine th_take 12 rfl (by kernel_rfl) (by kernel_rfl) (by kernel_rfl) (⟨H.get0, H.get3, H.resF' hRR hD⟩) (fun _ hS => ov_pick_f (va := undef) rfl rfl rfl rfl) rfl rfl rfl ?_
            refine th_take 13 rfl (by kernel_rfl) (by kernel_rfl) (by kernel_rfl) (⟨H.get0, H.get3, H.resF' hRR hD⟩) (fun _ hS => ov_move rfl rfl) rfl rfl rfl ?_
            refine th_take 14 rfl (by kernel_rfl) (by kernel_rfl) (by kernel_rfl) (⟨H.get0, H.get3, H.resF' hRR hD⟩) (fun _ hS => ov_move rfl rfl) rfl rfl rfl ?_
            refine th_take 15 rfl (by kernel_rfl) (by kernel_rfl) (by kernel_rfl) (⟨H.get0, H.get3, H.resF' hRR hD⟩) (fun _ hS => ov_geq rfl rfl rfl) rfl rfl rfl ?_
            refine th_take 16 rfl (by kernel_rfl) (by kernel_rfl) (by kernel_rfl) (⟨H.get0, H.get3, H.resF' hRR hD⟩) (fun _ hS => ov_move rfl rfl) rfl rfl rfl ?_
            refine th_split (t := 139) rfl (fun s139 => ?_) (fun s139 => ?_)
            · skip
              refine th_take 17 rfl (by kernel_rfl) (by kernel_rfl) (by kernel_rfl) (⟨H.get0, H.get3, H.resF' hRR hD⟩) (fun _ hS => ov_load_blkN hS.1 rfl (Try.isAgg30 _) (Try.sizeOf30 _) rfl rfl rfl) rfl rfl rfl ?_
              refine th_take 19 rfl (by kernel_rfl) (by kernel_rfl) (by kernel_rfl) (⟨H.get0, H.get3, H.resF' hRR hD⟩) (fun _ hS => ov_fieldAddr rfl Try.underlying85 rfl (Try.sizeOf46 _) (by decide) rfl) rfl rfl rfl ?_
              refine th_take 20 rfl (by kernel_rfl) (by kernel_rfl) (by kernel_rfl) (⟨H.get0, H.get3, H.resF' hRR hD⟩) (fun _ hS => ov_load_blk hS.2.1 rfl (Try.isAgg46 _) rfl rfl rfl) rfl rfl rfl ?_
              refine th_take 21 rfl (by kernel_rfl) (by kernel_rfl) (by kernel_rfl) (⟨H.get0, H.get3, H.resF' hRR hD⟩) (fun _ hS => ov_move rfl rfl) rfl rfl rfl ?_
              refine th_take 22 rfl (by kernel_rfl) (by kernel_rfl) (by kernel_rfl) (⟨H.get0, H.get3, H.resF' hRR hD⟩) (fun _ hS => ov_indexAddrR (rdr_rd hS.2.2) rfl Try.underlying46 (Try.sizeOf59 _) rfl rfl (by omega) hi1) rfl rfl rfl ?_
              refine th_take 23 rfl (by kernel_rfl) (by kernel_rfl) (by kernel_rfl) (⟨H.get0, H.get3, H.resF' hRR hD⟩) (fun _ hS => ld_RThing (rdr_rd hS.2.2) rfl (Try.isAgg59 _) (Try.sizeOf59 _) rfl (by omega) hi1) rfl rfl rfl ?_
              refine th_one 18 (by kernel_rfl) ?_
              refine tw_call (Plain_c (tOr (findT q.id X)) _) rfl rfl rfl rfl Try.call65 rfl rfl rfl ?_
              rintro _ w28 ⟨rfl, HC⟩
              have H := H.call0n HC
              refine ⟨⟨H.get0, H.get3, H.resF' hRR hD⟩, ?_⟩
              refine th_take 24 rfl (by kernel_rfl) (by kernel_rfl) (by kernel_rfl) (⟨H.get0, H.get3, H.resF' hRR hD⟩) (fun _ hS => ov_eqRT (s := toR (tOr (findT q.id X)) 0) (t := gt (zR X) (idxR q.id (zR X))) rfl rfl rfl) rfl rfl rfl ?_
              refine th_take 25 rfl (by kernel_rfl) (by kernel_rfl) (by kernel_rfl) (⟨H.get0, H.get3, H.resF' hRR hD⟩) (fun _ hS => ov_pick (vb := undef) rfl rfl rfl rfl) rfl rfl rfl ?_
              refine th_take 26 rfl (by kernel_rfl) (by kernel_rfl) (by kernel_rfl) (⟨H.get0, H.get3, H.resF' hRR hD⟩) (fun _ hS => ov_pick_f (va := undef) rfl rfl rfl rfl) rfl rfl rfl ?_
              refine th_take 27 rfl (by kernel_rfl) (by kernel_rfl) (by kernel_rfl) (⟨H.get0, H.get3, H.resF' hRR hD⟩) (fun _ hS => ov_pick (vb := undef) rfl rfl rfl rfl) rfl rfl rfl ?_
              refine th_one 28 (by kernel_rfl) ?_
              (refine tw_storeW H.get1 rfl rfl (Try.sizeOf85 _) rfl rfl rfl rfl rfl rfl rfl rfl ?_; intro w29 U; have H := H.upd1 U; clear U)
              refine ⟨⟨H.get0, H.get3, H.resF' hRR hD⟩, ?_⟩
              refine th_take 29 rfl (by kernel_rfl) (by kernel_rfl) (by kernel_rfl) (⟨H.get0, H.get3, H.resF' hRR hD⟩) (fun _ hS => ov_assign rfl rfl) rfl rfl rfl ?_
              refine th_done (by kernel_rfl) ?_
              refine hK14 _ _ (TrC.keep [7, 18, 109, 83, 56, 27, 6, 5, 4, 0] ?_)
              show TrC _ _ _ _ [(7, _), (18, _), (109, _), (83, _), (56, _), (27, _), (6, _), (5, _), (4, _), (0, _)] _ _
              refine tr_ret (post_ret2 (.inr rfl) rfl (by exact ⟨_, rfl, res_blkN H.get1 (Try.isAgg85 _) (Try.sizeOf85 _) rfl rfl⟩) rfl ?_)
              (have eN : dN now q = now := (by unfold dN; rw [if_neg (by omega)]); have eL : dL last X q = last := (by unfold dL; rw [if_pos (by omega)]); have eX : dX now last X q = X := (by unfold dX; rw [if_neg (by omega), if_neg (by omega), if_pos (by omega)]); rw [eN, eL, eX]; exact ⟨B, c, false, tup_t (decide_eq_true (get_pos s131)), fun _ => ⟨rfl, rfl⟩, hc, L, hX, H.drop0.drop0.drop0.drop0.optNil _ _⟩)
            · exfalso; omega
        · exact absurd (beq_iff_eq.mp (get_idx q.id X)) s128
      · skip
        refine tr_seq (fun K15 hK15 => ?_)
        -- region 2: law.go:60
        refine tr_region ?_
        refine tr_val (ov_load_blkN H.get2 rfl (Try.isAgg85 _) (Try.sizeOf85 _) rfl rfl rfl) rfl rfl rfl ?_
        refine tr_val (ov_fieldAddr rfl Try.underlying74 rfl (Try.sizeOf28 _) (by decide) rfl) rfl rfl rfl ?_
        refine tr_val (ov_load_blk H.get1 rfl (Try.isAgg28 _) rfl rfl rfl) rfl rfl rfl ?_
        refine tr_val (ov_fieldAddr rfl Try.underlying74 rfl (Try.sizeOf2 _) (by decide) rfl) rfl rfl rfl ?_
        refine tr_val (ov_load_blk H.get1 rfl (Try.isAgg2 _) rfl rfl rfl) rfl rfl rfl ?_
        refine tr_call (SetR13_r B c X now last _ hfew hla hc (rdr_rd (H.resF' hRR hD)) q.id q.at_) rfl rfl rfl Try.call76 rfl rfl rfl ?_
        rintro _ w30 ⟨A1, c1, bo, rfl, hbo, hc1, HC⟩
        have H := H.call0r HC
        refine tr_val (ov_move rfl rfl) rfl rfl rfl ?_
        refine tr_val (ov_extract rfl rfl rfl) rfl rfl rfl ?_
        refine tr_val (ov_extract rfl rfl rfl) rfl rfl rfl ?_
        refine tr_val (ov_extract rfl rfl rfl) rfl rfl rfl ?_
        refine tr_alloc H rfl (Try.zeroValue85 _) rfl rfl rfl rfl ?_
        intro b5 w31 hb5 H
        (refine tr_storeW H.get0 rfl (Try.sizeOf85 _) rfl rfl rfl rfl rfl rfl rfl rfl ?_; intro w32 U; have H := H.upd0 U; clear U)
        refine tr_val (ov_assign rfl rfl) rfl rfl rfl ?_
        refine tr_val (ov_assign rfl rfl) rfl rfl rfl ?_
        refine tr_nil (hK15 _ _ (TrC.keep [23, 22, 21, 109, 83, 56, 27, 7, 6, 5, 4, 0] ?_))
        show TrC _ _ _ _ [(23, _), (22, _), (21, _), (109, _), (83, _), (56, _), (27, _), (7, _), (6, _), (5, _), (4, _), (0, _)] _ _
        refine tr_seq (fun K16 hK16 => ?_)
        -- region 3: law.go:61
        refine tr_region ?_
        refine tr_val (ov_move rfl rfl) rfl rfl rfl ?_
        refine tr_val (ov_fieldAddr rfl Try.underlying74 rfl (Try.sizeOf28 _) (by decide) rfl) rfl rfl rfl ?_
        refine tr_val (ov_load_blk H.get3 rfl (Try.isAgg28 _) rfl rfl rfl) rfl rfl rfl ?_
        refine tr_val (ov_fieldAddr rfl Try.underlying74 rfl (Try.sizeOf2 _) (by decide) rfl) rfl rfl rfl ?_
        refine tr_val (ov_load_blk H.get3 rfl (Try.isAgg2 _) rfl rfl rfl) rfl rfl rfl ?_
        refine tr_call (bSet_c b now last X L _ hX H.get5 q.id q.at_) rfl rfl rfl Try.call32 rfl rfl rfl ?_
        rintro _ w33 ⟨rfl, L1, hX1, HC⟩
        have H := H.top5.call1 HC
        refine tr_val (ov_move rfl rfl) rfl rfl rfl ?_
        refine tr_val (ov_extract rfl rfl rfl) rfl rfl rfl ?_
        refine tr_val (ov_extract rfl rfl rfl) rfl rfl rfl ?_
        refine tr_val (ov_assign rfl rfl) rfl rfl rfl ?_
        refine tr_val (ov_assign rfl rfl) rfl rfl rfl ?_
        refine tr_nil (hK16 _ _ (TrC.keep [25, 24, 23, 22, 21, 109, 83, 56, 27, 7, 6, 5, 4, 0] ?_))
        show TrC _ _ _ _ [(25, _), (24, _), (23, _), (22, _), (21, _), (109, _), (83, _), (56, _), (27, _), (7, _), (6, _), (5, _), (4, _), (0, _)] _ _
        refine tr_seq (fun K17 hK17 => ?_)
        -- region 4: law.go:62
        refine tr_region ?_
        refine tr_val (ov_load_blkN H.get1 rfl (Try.isAgg85 _) (Try.sizeOf85 _) rfl rfl rfl) rfl rfl rfl ?_
        refine tr_val (ov_move rfl rfl) rfl rfl rfl ?_
        refine tr_val (ov_move rfl rfl) rfl rfl rfl ?_
        refine tr_val (ov_eql rfl rfl rfl) rfl rfl rfl ?_
        refine tr_val (ov_move rfl rfl) rfl rfl rfl ?_
        refine tr_split (t := 51) rfl (fun s51 => ?_) (fun s51 => ?_)
        · skip
          refine tr_val (ov_move rfl rfl) rfl rfl rfl ?_
          refine tr_val (ov_move rfl rfl) rfl rfl rfl ?_
          refine tr_val (ov_eql rfl rfl rfl) rfl rfl rfl ?_
          refine tr_val (ov_pick (vb := undef) rfl rfl rfl rfl) rfl rfl rfl ?_
          (refine tr_storeW H.get3 rfl (Try.sizeOf85 _) rfl rfl rfl rfl rfl rfl rfl rfl ?_; intro w34 U; have H := H.upd3 U; clear U)
          refine tr_val (ov_assign rfl rfl) rfl rfl rfl ?_
          refine tr_nil (hK17 _ _ (TrC.keep [7, 21, 109, 83, 56, 27, 6, 5, 4, 0] ?_))
          show TrC _ _ _ _ [(7, _), (21, _), (109, _), (83, _), (56, _), (27, _), (6, _), (5, _), (4, _), (0, _)] _ _
          refine tr_ret (post_ret2 (.inr rfl) rfl (by exact ⟨_, rfl, res_blkN H.get3 (Try.isAgg85 _) (Try.sizeOf85 _) rfl rfl⟩) rfl ?_)
          (have eN : dN now q = now := (by unfold dN; rw [if_neg (by omega)]); have eL : dL last X q = (setN last X q.id q.at_) := (by unfold dL; rw [if_neg (by omega)]); have eX : dX now last X q = setS last X q.id q.at_ := (by unfold dX; rw [if_neg (by omega), if_neg (by omega), if_neg (by omega)]); rw [eN, eL, eX]; exact ⟨A1, c1, bo, tup_t (by exact decide_eq_true rfl), hbo, hc1, L1, bookX_perm hX1 (setX_perm last X q.id q.at_), H.drop1.drop2.drop2.drop2.top1⟩)
        · exact absurd rfl s51

end Go.Proofs.Ytblipnjjgbggiaa
