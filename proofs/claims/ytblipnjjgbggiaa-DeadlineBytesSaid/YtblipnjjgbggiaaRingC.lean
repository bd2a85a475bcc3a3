/- Contracts of slots.Ring. Conditions: none. -/
import Derived.Test.YtblipnjjgbggiaaRefP
import Derived.Test.YtblipnjjgbggiaaStab
namespace Go.Proofs.Ytblipnjjgbggiaa
open Go Go.RowKit
set_option linter.unusedVariables false
set_option linter.unusedSimpArgs false

theorem new_cells (m : Nat) : ([.slice none 0 0, .slice none 0 0, .slice none 0 0, .slice none 0 0, .slice none 0 0, .slice none 0 0, .slice none 0 0, .slice none 0 0, .slice none 0 0, .slice none 0 0, .slice none 0 0, .slice none 0 0, .slice none 0 0, .slice none 0 0, .slice none 0 0, .slice none 0 0, .slice none 0 0, .slice none 0 0, .slice none 0 0, .slice none 0 0, .slice none 0 0, .slice none 0 0, .slice none 0 0, .slice none 0 0, .slice none 0 0, .slice none 0 0, .slice none 0 0, .slice none 0 0, .slice none 0 0, .slice none 0 0, .slice none 0 0, .slice none 0 0, .slice none 0 0, .slice none 0 0, .slice none 0 0, .slice none 0 0, .slice none 0 0, .slice none 0 0, .slice none 0 0, .slice none 0 0, .slice none 0 0, .slice none 0 0, .slice none 0 0, .slice none 0 0, .slice none 0 0, .slice none 0 0, .slice none 0 0, .slice none 0 0, .slice none 0 0, .slice none 0 0, .slice none 0 0, .slice none 0 0, .slice none 0 0, .slice none 0 0, .slice none 0 0, .slice none 0 0, .slice none 0 0, .slice none 0 0, .slice none 0 0, .slice none 0 0, .slice none 0 0, .slice none 0 0, .slice none 0 0, .slice none 0 0, .int .u64 0, .map (some m)] : List Value) = cellsR (List.replicate 64 ((none, 0, []) : Slot)) 0 m := by kernel_rfl

/-! curfew/slots.New -/
set_option maxRecDepth 20000 in
theorem ringNew_c (w : World) : Does Try.prog 53 #[] w (fun v w' => ∃ d L, v = .pointer (some ⟨d, 0, none⟩) ∧ RingL 161 30 d [] L ∧ SH w noBlocks [pack L] w') := by
  refine does_enter0 Try.func53 rfl Try.ntmps53 rfl ?_
  have H := SH.start w noBlocks
  refine tr_seq (fun K1 hK1 => ?_)
  -- region 0: slots.go:40
  refine tr_region ?_
  refine tr_val (ov_assign rfl rfl) rfl rfl rfl ?_
  refine tr_nil (hK1 _ _ (TrC.keep [0] ?_))
  show TrC _ _ _ _ [(0, _)] _ _
  refine tr_seq (fun K2 hK2 => ?_)
  -- region 1: slots.go:40
  refine tr_region ?_
  refine tr_makeMap .u64 (fun s : Int => .int .i64 s) H rfl rfl rfl rfl ?_
  intro m w1 H
  refine tr_val (ov_build rfl (fun ρ k => bs1 k rfl) (bld161_2 _ _)) rfl rfl rfl ?_
  refine tr_box H rfl rfl rfl rfl rfl rfl ?_
  intro d w1 hd H
  refine tr_val (ov_assign rfl rfl) rfl rfl rfl ?_
  refine tr_nil (hK2 _ _ (TrC.keep [0] ?_))
  show TrC _ _ _ _ [(0, _)] _ _
  refine tr_ret (post_ret1 (.inr rfl) rfl rfl ?_)
  rw [new_cells m] at H
  have H := H.top1.top1
  have H2 := SH.addNils (TE := 30) 64 H
  have H3 := H2.perm (List.perm_append_comm)
  exact ⟨d, _, rfl, ⟨m, _, _, _, _, Rel.start, rfl⟩, SH.pack1 H3⟩

/-! (*curfew/slots.Ring).none -/
set_option maxRecDepth 20000 in
theorem none_ring (d : Nat) (W : List RThing) (L : List Res) (w : World) (hL : RingL 161 30 d W L) (hO : (pack L).holds w) : Does Try.prog 101 #[.pointer (some ⟨d, 0, none⟩)] w (fun v w' => v = .bool false ∧ SH w noBlocks [] w') := by
  obtain ⟨m, Z, u, E, ck, hR, rfl⟩ := hL
  have hlen := hR.len
  have hwf := hR.wf
  have hb : (blk d 161 (cellsR Z u m)).holds w := pack_hold hO (by simp [ringL])
  have hm : (mapS m E ck).holds w := pack_hold hO (by simp [ringL])
  have hsl : ∀ k : Int, 0 ≤ k → k ≤ 63 → (vecZ 30 (gt Z k)).holds w := fun k h0 h1 => pack_hold hO (by simp only [ringL, List.mem_cons]; exact .inr (.inr (List.mem_map.mpr ⟨_, gt_mem h0 (by omega), rfl⟩)))
  refine does_enter1 Try.func101 rfl Try.ntmps101 rfl ?_
  have H := SH.start w noBlocks
  refine tr_seq (fun K1 hK1 => ?_)
  -- region 0: slots.go:42
  refine tr_region ?_
  refine tr_val (ov_assign rfl rfl) rfl rfl rfl ?_
  refine tr_nil (hK1 _ _ (TrC.keep [2, 0] ?_))
  show TrC _ _ _ _ [(2, _), (0, _)] _ _
  refine tr_seq (fun K2 hK2 => ?_)
  -- region 1: slots.go:42
  refine tr_region ?_
  refine tr_val (ov_move rfl rfl) rfl rfl rfl ?_
  refine tr_val (ov_eql_nil rfl Try.underlying61 rfl rfl) rfl rfl rfl ?_
  refine tr_val (ov_move rfl rfl) rfl rfl rfl ?_
  refine tr_splitb (t := 5) rfl (fun s5 => ?_) (fun s5 => ?_)
  · cases s5
  · skip
    refine tr_val (ov_move rfl rfl) rfl rfl rfl ?_
    refine tr_val (ov_nilCheck rfl rfl) rfl rfl rfl ?_
    refine tr_val (ov_fieldAddr rfl Try.underlying161 rfl (Try.sizeOf158 _) (by decide) rfl) rfl rfl rfl ?_
    refine tr_val (ov_load_blk (H.res0 hb) rfl (Try.isAgg158 _) rfl rfl (cellsR_map hlen)) rfl rfl rfl ?_
    refine tr_val (ov_meql_nil rfl Try.underlying158 rfl rfl) rfl rfl rfl ?_
    refine tr_val (ov_pick_f (va := undef) rfl rfl rfl rfl) rfl rfl rfl ?_
    refine tr_val (ov_assign rfl rfl) rfl rfl rfl ?_
    refine tr_nil (hK2 _ _ (TrC.keep [2] ?_))
    show TrC _ _ _ _ [(2, _)] _ _
    refine tr_ret (post_ret1 (.inr rfl) rfl rfl ?_)
    exact ⟨rfl, H⟩

/-- No ring: nil, or one that New did not make. -/
def NoRing (w : World) (p : Option Addr) : Prop := p = none ∨ ∃ d Z u, p = some ⟨d, 0, none⟩ ∧ Z.length = 64 ∧ (blk d 161 (Z ++ [.int .u64 u, .map none])).holds w
theorem noRing_map {Z : List Value} {u : Int} (hZ : Z.length = 64) : (Z ++ [.int .u64 u, .map none])[65]? = some (Value.map none) := by rw [List.getElem?_append_right (by omega)]; simp [hZ]

/-! (*curfew/slots.Ring).none -/
set_option maxRecDepth 20000 in
theorem none_nil (w : World) : Does Try.prog 101 #[.pointer none] w (fun v w' => v = .bool true ∧ SH w noBlocks [] w') := by
  refine does_enter1 Try.func101 rfl Try.ntmps101 rfl ?_
  have H := SH.start w noBlocks
  refine tr_seq (fun K1 hK1 => ?_)
  -- region 0: slots.go:42
  refine tr_region ?_
  refine tr_val (ov_assign rfl rfl) rfl rfl rfl ?_
  refine tr_nil (hK1 _ _ (TrC.keep [2, 0] ?_))
  show TrC _ _ _ _ [(2, _), (0, _)] _ _
  refine tr_seq (fun K2 hK2 => ?_)
  -- region 1: slots.go:42
  refine tr_region ?_
  refine tr_val (ov_move rfl rfl) rfl rfl rfl ?_
  refine tr_val (ov_eql_nil rfl Try.underlying61 rfl rfl) rfl rfl rfl ?_
  refine tr_val (ov_move rfl rfl) rfl rfl rfl ?_
  refine tr_splitb (t := 5) rfl (fun s5 => ?_) (fun s5 => ?_)
  · skip
    refine tr_pass rfl rfl rfl ?_
    refine tr_pass rfl rfl rfl ?_
    refine tr_pass rfl rfl rfl ?_
    refine tr_pass rfl rfl rfl ?_
    refine tr_pass rfl rfl rfl ?_
    refine tr_val (ov_pick (vb := undef) rfl rfl rfl rfl) rfl rfl rfl ?_
    refine tr_val (ov_assign rfl rfl) rfl rfl rfl ?_
    refine tr_nil (hK2 _ _ (TrC.keep [2] ?_))
    show TrC _ _ _ _ [(2, _)] _ _
    refine tr_ret (post_ret1 (.inr rfl) rfl rfl ?_)
    exact ⟨rfl, H⟩
  · cases s5

/-! (*curfew/slots.Ring).none -/
set_option maxRecDepth 20000 in
theorem none_zero (d : Nat) (Z : List Value) (u : Int) (w : World) (hZ : Z.length = 64) (hb : (blk d 161 (Z ++ [.int .u64 u, .map none])).holds w) : Does Try.prog 101 #[.pointer (some ⟨d, 0, none⟩)] w (fun v w' => v = .bool true ∧ SH w noBlocks [] w') := by
  refine does_enter1 Try.func101 rfl Try.ntmps101 rfl ?_
  have H := SH.start w noBlocks
  refine tr_seq (fun K1 hK1 => ?_)
  -- region 0: slots.go:42
  refine tr_region ?_
  refine tr_val (ov_assign rfl rfl) rfl rfl rfl ?_
  refine tr_nil (hK1 _ _ (TrC.keep [2, 0] ?_))
  show TrC _ _ _ _ [(2, _), (0, _)] _ _
  refine tr_seq (fun K2 hK2 => ?_)
  -- region 1: slots.go:42
  refine tr_region ?_
  refine tr_val (ov_move rfl rfl) rfl rfl rfl ?_
  refine tr_val (ov_eql_nil rfl Try.underlying61 rfl rfl) rfl rfl rfl ?_
  refine tr_val (ov_move rfl rfl) rfl rfl rfl ?_
  refine tr_splitb (t := 5) rfl (fun s5 => ?_) (fun s5 => ?_)
  · cases s5
  · skip
    refine tr_val (ov_move rfl rfl) rfl rfl rfl ?_
    refine tr_val (ov_nilCheck rfl rfl) rfl rfl rfl ?_
    refine tr_val (ov_fieldAddr rfl Try.underlying161 rfl (Try.sizeOf158 _) (by decide) rfl) rfl rfl rfl ?_
    refine tr_val (ov_load_blk (H.res0 hb) rfl (Try.isAgg158 _) rfl rfl (noRing_map hZ)) rfl rfl rfl ?_
    refine tr_val (ov_meql_nil rfl Try.underlying158 rfl rfl) rfl rfl rfl ?_
    refine tr_val (ov_pick_f (va := undef) rfl rfl rfl rfl) rfl rfl rfl ?_
    refine tr_val (ov_assign rfl rfl) rfl rfl rfl ?_
    refine tr_nil (hK2 _ _ (TrC.keep [2] ?_))
    show TrC _ _ _ _ [(2, _)] _ _
    refine tr_ret (post_ret1 (.inr rfl) rfl rfl ?_)
    exact ⟨rfl, H⟩

theorem none_n (p : Option Addr) (w : World) (h : NoRing w p) : Does Try.prog 101 #[.pointer p] w (fun v w' => v = .bool true ∧ SH w noBlocks [] w') := by
  rcases h with rfl | ⟨d, Z, u, rfl, hZ, hb⟩
  · exact none_nil w
  · exact none_zero d Z u w hZ hb

/-! (*curfew/slots.Ring).Len -/
set_option maxRecDepth 20000 in
theorem ringLen_c (d : Nat) (W : List RThing) (L : List Res) (w : World) (hL : RingL 161 30 d W L) (hO : (pack L).holds w) : Does Try.prog 62 #[.pointer (some ⟨d, 0, none⟩)] w (fun v w' => v = .int .i64 W.length ∧ SH w noBlocks [] w') := by
  obtain ⟨m, Z, u, E, ck, hR, rfl⟩ := hL
  have hlen := hR.len
  have hwf := hR.wf
  have hb : (blk d 161 (cellsR Z u m)).holds w := pack_hold hO (by simp [ringL])
  have hm : (mapS m E ck).holds w := pack_hold hO (by simp [ringL])
  have hsl : ∀ k : Int, 0 ≤ k → k ≤ 63 → (vecZ 30 (gt Z k)).holds w := fun k h0 h1 => pack_hold hO (by simp only [ringL, List.mem_cons]; exact .inr (.inr (List.mem_map.mpr ⟨_, gt_mem h0 (by omega), rfl⟩)))
  refine does_enter1 Try.func62 rfl Try.ntmps62 rfl ?_
  have H := SH.start w noBlocks
  refine tr_seq (fun K1 hK1 => ?_)
  -- region 0: slots.go:45
  refine tr_region ?_
  refine tr_val (ov_assign rfl rfl) rfl rfl rfl ?_
  refine tr_nil (hK1 _ _ (TrC.keep [2, 0] ?_))
  show TrC _ _ _ _ [(2, _), (0, _)] _ _
  refine tr_seq (fun K2 hK2 => ?_)
  refine tr_seq (fun K3 hK3 => ?_)
  -- region 1: slots.go:46
  refine tr_region ?_
  refine tr_val (ov_move rfl rfl) rfl rfl rfl ?_
  refine tr_call (none_ring d W _ _ ⟨m, Z, u, E, ck, hR, rfl⟩ (H.res0 hO)) rfl rfl rfl Try.call101 rfl rfl rfl ?_
  rintro _ w1 ⟨rfl, HC⟩
  have H := H.call0n HC
  refine tr_nil (hK3 _ _ (TrC.keep [4, 2, 0] ?_))
  show TrC _ _ _ _ [(4, _), (2, _), (0, _)] _ _
  refine tr_condb rfl (fun c4 => ?_) (fun c4 => ?_)
  · cases c4
  · skip
    refine tr_skip (hK2 _ _ (TrC.keep [4, 2, 0] ?_))
    show TrC _ _ _ _ [(4, _), (2, _), (0, _)] _ _
    refine tr_seq (fun K4 hK4 => ?_)
    -- region 3: slots.go:49
    refine tr_region ?_
    refine tr_val (ov_move rfl rfl) rfl rfl rfl ?_
    refine tr_val (ov_nilCheck rfl rfl) rfl rfl rfl ?_
    refine tr_val (ov_fieldAddr rfl Try.underlying161 rfl (Try.sizeOf158 _) (by decide) rfl) rfl rfl rfl ?_
    refine tr_val (ov_load_blk (H.res0 hb) rfl (Try.isAgg158 _) rfl rfl (cellsR_map hlen)) rfl rfl rfl ?_
    refine tr_val (ov_lenMap (H.res0 hm) rfl rfl Try.underlying158 rfl) rfl rfl rfl ?_
    refine tr_val (ov_assign rfl rfl) rfl rfl rfl ?_
    refine tr_nil (hK4 _ _ (TrC.keep [2, 4, 0] ?_))
    show TrC _ _ _ _ [(2, _), (4, _), (0, _)] _ _
    refine tr_ret (post_ret1 (.inr rfl) rfl rfl ?_)
    rw [hR.many]; exact ⟨rfl, H⟩

/-! (*curfew/slots.Ring).Len -/
set_option maxRecDepth 20000 in
theorem ringLen_n (p : Option Addr) (w : World) (hp : NoRing w p) : Does Try.prog 62 #[.pointer p] w (fun v w' => v = .int .i64 0 ∧ SH w noBlocks [] w') := by
  refine does_enter1 Try.func62 rfl Try.ntmps62 rfl ?_
  have H := SH.start w noBlocks
  refine tr_seq (fun K1 hK1 => ?_)
  -- region 0: slots.go:45
  refine tr_region ?_
  refine tr_val (ov_assign rfl rfl) rfl rfl rfl ?_
  refine tr_nil (hK1 _ _ (TrC.keep [2, 0] ?_))
  show TrC _ _ _ _ [(2, _), (0, _)] _ _
  refine tr_seq (fun K2 hK2 => ?_)
  refine tr_seq (fun K3 hK3 => ?_)
  -- region 1: slots.go:46
  refine tr_region ?_
  refine tr_val (ov_move rfl rfl) rfl rfl rfl ?_
  refine tr_call (none_n p _ hp) rfl rfl rfl Try.call101 rfl rfl rfl ?_
  rintro _ w1 ⟨rfl, HC⟩
  have H := H.call0n HC
  refine tr_nil (hK3 _ _ (TrC.keep [4, 2, 0] ?_))
  show TrC _ _ _ _ [(4, _), (2, _), (0, _)] _ _
  refine tr_condb rfl (fun c4 => ?_) (fun c4 => ?_)
  · skip
    refine tr_seq (fun K4 hK4 => ?_)
    -- region 2: slots.go:47
    refine tr_region ?_
    refine tr_val (ov_assign rfl rfl) rfl rfl rfl ?_
    refine tr_nil (hK4 _ _ (TrC.keep [2, 4, 0] ?_))
    show TrC _ _ _ _ [(2, _), (4, _), (0, _)] _ _
    refine tr_ret (post_ret1 (.inr rfl) rfl rfl ?_)
    exact ⟨rfl, H⟩
  · cases c4

/-! (*curfew/slots.Ring).Used -/
set_option maxRecDepth 20000 in
theorem ringUsed_c (d : Nat) (W : List RThing) (L : List Res) (w : World) (hL : RingL 161 30 d W L) (hO : (pack L).holds w) : Does Try.prog 60 #[.pointer (some ⟨d, 0, none⟩)] w (fun v w' => v = .int .u64 (usedN W : Nat) ∧ SH w noBlocks [] w') := by
  obtain ⟨m, Z, u, E, ck, hR, rfl⟩ := hL
  have hlen := hR.len
  have hwf := hR.wf
  have hb : (blk d 161 (cellsR Z u m)).holds w := pack_hold hO (by simp [ringL])
  have hm : (mapS m E ck).holds w := pack_hold hO (by simp [ringL])
  have hsl : ∀ k : Int, 0 ≤ k → k ≤ 63 → (vecZ 30 (gt Z k)).holds w := fun k h0 h1 => pack_hold hO (by simp only [ringL, List.mem_cons]; exact .inr (.inr (List.mem_map.mpr ⟨_, gt_mem h0 (by omega), rfl⟩)))
  refine does_enter1 Try.func60 rfl Try.ntmps60 rfl ?_
  have H := SH.start w noBlocks
  refine tr_seq (fun K1 hK1 => ?_)
  -- region 0: slots.go:53
  refine tr_region ?_
  refine tr_val (ov_assign rfl rfl) rfl rfl rfl ?_
  refine tr_nil (hK1 _ _ (TrC.keep [2, 0] ?_))
  show TrC _ _ _ _ [(2, _), (0, _)] _ _
  refine tr_seq (fun K2 hK2 => ?_)
  refine tr_seq (fun K3 hK3 => ?_)
  -- region 1: slots.go:54
  refine tr_region ?_
  refine tr_val (ov_move rfl rfl) rfl rfl rfl ?_
  refine tr_call (none_ring d W _ _ ⟨m, Z, u, E, ck, hR, rfl⟩ (H.res0 hO)) rfl rfl rfl Try.call101 rfl rfl rfl ?_
  rintro _ w1 ⟨rfl, HC⟩
  have H := H.call0n HC
  refine tr_nil (hK3 _ _ (TrC.keep [4, 2, 0] ?_))
  show TrC _ _ _ _ [(4, _), (2, _), (0, _)] _ _
  refine tr_condb rfl (fun c4 => ?_) (fun c4 => ?_)
  · cases c4
  · skip
    refine tr_skip (hK2 _ _ (TrC.keep [4, 2, 0] ?_))
    show TrC _ _ _ _ [(4, _), (2, _), (0, _)] _ _
    refine tr_seq (fun K4 hK4 => ?_)
    -- region 3: slots.go:57
    refine tr_region ?_
    refine tr_val (ov_move rfl rfl) rfl rfl rfl ?_
    refine tr_val (ov_nilCheck rfl rfl) rfl rfl rfl ?_
    refine tr_val (ov_fieldAddr rfl Try.underlying161 rfl (Try.sizeOf28 _) (by decide) rfl) rfl rfl rfl ?_
    refine tr_val (ov_load_blk (H.res0 hb) rfl (Try.isAgg28 _) rfl rfl (cellsR_used hlen)) rfl rfl rfl ?_
    refine tr_val (ov_assign rfl rfl) rfl rfl rfl ?_
    refine tr_nil (hK4 _ _ (TrC.keep [2, 4, 0] ?_))
    show TrC _ _ _ _ [(2, _), (4, _), (0, _)] _ _
    refine tr_ret (post_ret1 (.inr rfl) rfl rfl ?_)
    rw [hR.used]; exact ⟨rfl, H⟩

/-! (*curfew/slots.Ring).Used -/
set_option maxRecDepth 20000 in
theorem ringUsed_n (p : Option Addr) (w : World) (hp : NoRing w p) : Does Try.prog 60 #[.pointer p] w (fun v w' => v = .int .u64 0 ∧ SH w noBlocks [] w') := by
  refine does_enter1 Try.func60 rfl Try.ntmps60 rfl ?_
  have H := SH.start w noBlocks
  refine tr_seq (fun K1 hK1 => ?_)
  -- region 0: slots.go:53
  refine tr_region ?_
  refine tr_val (ov_assign rfl rfl) rfl rfl rfl ?_
  refine tr_nil (hK1 _ _ (TrC.keep [2, 0] ?_))
  show TrC _ _ _ _ [(2, _), (0, _)] _ _
  refine tr_seq (fun K2 hK2 => ?_)
  refine tr_seq (fun K3 hK3 => ?_)
  -- region 1: slots.go:54
  refine tr_region ?_
  refine tr_val (ov_move rfl rfl) rfl rfl rfl ?_
  refine tr_call (none_n p _ hp) rfl rfl rfl Try.call101 rfl rfl rfl ?_
  rintro _ w1 ⟨rfl, HC⟩
  have H := H.call0n HC
  refine tr_nil (hK3 _ _ (TrC.keep [4, 2, 0] ?_))
  show TrC _ _ _ _ [(4, _), (2, _), (0, _)] _ _
  refine tr_condb rfl (fun c4 => ?_) (fun c4 => ?_)
  · skip
    refine tr_seq (fun K4 hK4 => ?_)
    -- region 2: slots.go:55
    refine tr_region ?_
    refine tr_val (ov_assign rfl rfl) rfl rfl rfl ?_
    refine tr_nil (hK4 _ _ (TrC.keep [2, 4, 0] ?_))
    show TrC _ _ _ _ [(2, _), (4, _), (0, _)] _ _
    refine tr_ret (post_ret1 (.inr rfl) rfl rfl ?_)
    exact ⟨rfl, H⟩
  · cases c4

/-! slices.IndexFunc[[]curfew/slots.Thing,curfew/slots.Thing] -/
set_option maxRecDepth 20000 in
theorem IndexT_c (B : Option Addr) (c : Nat) (L : List Thing) (w : World) (hR : Rd w B 3 (L.map encThing)) (hL : L.length ≤ 4294967296) (gf : FuncId) (caps : List Value) (p : Thing → Bool) (hcf : ∀ ys w, (callFunc gf ys).run Try.prog w = .ok (.enter gf ys) w) (hf : ∀ t w1, SH w noBlocks [] w1 → Does Try.prog gf ([Value.agg #[.int .u64 t.id, .int .u64 t.gen, .int .i64 t.due]] ++ caps).toArray w1 (fun v w2 => v = .bool (p t) ∧ SH w1 noBlocks [] w2)) : Does Try.prog 115 #[.slice B L.length c, .func (.func gf) #[] caps.toArray] w (fun v w' => v = .int .i64 (idxFrom p 0 L) ∧ SH w noBlocks [] w') := by
  refine does_enter2 Try.func115 rfl Try.ntmps115 rfl ?_
  have H := SH.start w noBlocks
  refine tr_seq (fun K1 hK1 => ?_)
  -- region 0: slices.go:107
  refine tr_region ?_
  refine tr_val (ov_assign rfl rfl) rfl rfl rfl ?_
  refine tr_nil (hK1 _ _ (TrC.keep [4, 0, 1] ?_))
  show TrC _ _ _ _ [(4, _), (0, _), (1, _)] _ _
  refine tr_seq (fun K2 hK2 => ?_)
  refine tr_seq (fun K3 hK3 => ?_)
  -- region 1: slices.go:108
  refine tr_region ?_
  refine tr_val (ov_move rfl rfl) rfl rfl rfl ?_
  refine tr_val (ov_len rfl rfl Try.underlying32 rfl) rfl rfl rfl ?_
  refine tr_val (ov_move rfl rfl) rfl rfl rfl ?_
  refine tr_nil (hK3 _ _ (TrC.keep [8, 7, 4, 0, 1] ?_))
  show TrC _ _ _ _ [(8, _), (7, _), (4, _), (0, _), (1, _)] _ _
  refine tr_block ?_
  refine tr_loop_ (X := Int) [7, 0, 1] (fun i => [(8, .int .i64 i)]) (fun i w' => 0 ≤ i ∧ i ≤ L.length ∧ idxFrom p i (L.drop i.toNat) = idxFrom p 0 L ∧ SH w noBlocks [] w') (fun i => (L.length - i).toNat) (0) (Sub.cons rfl (Sub.cons rfl (Sub.cons rfl (Sub.cons rfl Sub.nil)))) (⟨by omega, by omega, rfl, H⟩) ?_
  rintro i w1 ⟨hi0, hi1, hx, H⟩ K4 hK4
  show TrC _ _ _ _ [(8, _), (7, _), (0, _), (1, _)] _ _
  refine tr_seq (fun K5 hK5 => ?_)
  -- region 2: slices.go:108
  refine tr_region ?_
  refine tr_val (ov_lss rfl rfl rfl) rfl rfl rfl ?_
  refine tr_nil (hK5 _ _ (TrC.keep [9, 8, 7, 0, 1] ?_))
  show TrC _ _ _ _ [(9, _), (8, _), (7, _), (0, _), (1, _)] _ _
  refine tr_seq (fun K6 hK6 => ?_)
  refine tr_cond rfl (fun c9 => ?_) (fun c9 => ?_)
  · skip
    refine tr_skip (hK6 _ _ (TrC.keep [9, 8, 7, 0, 1] ?_))
    show TrC _ _ _ _ [(9, _), (8, _), (7, _), (0, _), (1, _)] _ _
    refine tr_seq (fun K7 hK7 => ?_)
    refine tr_block ?_
    refine tr_seq (fun K8 hK8 => ?_)
    -- region 3: slices.go:108
    refine tr_region ?_
    refine tr_val (ov_move rfl rfl) rfl rfl rfl ?_
    refine tr_val (ov_assign rfl rfl) rfl rfl rfl ?_
    refine tr_nil (hK8 _ _ (TrC.keep [5, 9, 8, 7, 0, 1] ?_))
    show TrC _ _ _ _ [(5, _), (9, _), (8, _), (7, _), (0, _), (1, _)] _ _
    refine tr_seq (fun K9 hK9 => ?_)
    -- region 4: slices.go:109
    refine tr_region ?_
    refine tr_val (ov_move rfl rfl) rfl rfl rfl ?_
    refine tr_val (ov_move rfl rfl) rfl rfl rfl ?_
    refine tr_val (ov_move rfl rfl) rfl rfl rfl ?_
    refine tr_val (ov_indexAddrR (H.rd0 hR) rfl Try.underlying32 (Try.sizeOf30 _) rfl rfl (by omega) (by omega)) rfl rfl rfl ?_
    refine tr_val (ld_Thing (H.rd0 hR) rfl (Try.isAgg30 _) (Try.sizeOf30 _) rfl (by omega) (by omega)) rfl rfl rfl ?_
    refine tr_callc (hf (gt L i) _ H) rfl rfl rfl hcf rfl rfl rfl ?_
    rintro _ w2 ⟨rfl, HC⟩
    have H := H.call0n HC
    refine tr_nil (hK9 _ _ (TrC.keep [16, 5, 9, 8, 7, 0, 1] ?_))
    show TrC _ _ _ _ [(16, _), (5, _), (9, _), (8, _), (7, _), (0, _), (1, _)] _ _
    refine tr_condb rfl (fun c16 => ?_) (fun c16 => ?_)
    · skip
      refine tr_seq (fun K10 hK10 => ?_)
      -- region 5: slices.go:110
      refine tr_region ?_
      refine tr_val (ov_move rfl rfl) rfl rfl rfl ?_
      refine tr_val (ov_assign rfl rfl) rfl rfl rfl ?_
      refine tr_nil (hK10 _ _ (TrC.keep [4, 16, 5, 9, 8, 7, 0, 1] ?_))
      show TrC _ _ _ _ [(4, _), (16, _), (5, _), (9, _), (8, _), (7, _), (0, _), (1, _)] _ _
      refine tr_ret (post_ret1 (.inr rfl) rfl rfl ?_)
      rw [← hx, idx_hit hi0 (by omega) c16]; exact ⟨rfl, H⟩
    · skip
      refine tr_skip (hK7 _ _ (TrC.keep [16, 5, 9, 8, 7, 0, 1] ?_))
      show TrC _ _ _ _ [(16, _), (5, _), (9, _), (8, _), (7, _), (0, _), (1, _)] _ _
      -- region 6: slices.go:108
      refine tr_region ?_
      refine tr_val (ov_add rfl rfl rfl (w64 (by omega))) rfl rfl rfl ?_
      refine tr_val (ov_move rfl rfl) rfl rfl rfl ?_
      skip
      exact tr_nil (hK4 (i + 1) _ _ (⟨by omega, by omega, (idx_step hi0 (by omega) c16).symm.trans hx, H⟩) (by omega) (Sub.cons rfl (Sub.cons rfl (Sub.cons rfl (Sub.cons rfl Sub.nil)))))
  · skip
    refine tr_exit (hK2 _ _ (TrC.keep [9, 8, 7, 0, 1] ?_))
    show TrC _ _ _ _ [(9, _), (8, _), (7, _), (0, _), (1, _)] _ _
    refine tr_seq (fun K11 hK11 => ?_)
    -- region 7: slices.go:113
    refine tr_region ?_
    refine tr_val (ov_assign rfl rfl) rfl rfl rfl ?_
    refine tr_nil (hK11 _ _ (TrC.keep [4, 9, 8, 7, 0, 1] ?_))
    show TrC _ _ _ _ [(4, _), (9, _), (8, _), (7, _), (0, _), (1, _)] _ _
    refine tr_ret (post_ret1 (.inr rfl) rfl rfl ?_)
    rw [← hx, idx_end (by omega)]; exact ⟨rfl, H⟩

/-! (*curfew/slots.Ring).at$1 -/
set_option maxRecDepth 20000 in
theorem at1_c (t : Thing) (b : Nat) (id : Int) (w : World) (hb : (blk b 28 [.int .u64 id]).holds w) : Does Try.prog 116 #[.agg #[.int .u64 t.id, .int .u64 t.gen, .int .i64 t.due], .pointer (some ⟨b, 0, none⟩)] w (fun v w' => v = .bool (decide (t.id = id)) ∧ SH w noBlocks [] w') := by
  refine does_enter2 Try.func116 rfl Try.ntmps116 rfl ?_
  have H := SH.start w noBlocks
  refine tr_seq (fun K1 hK1 => ?_)
  -- region 0: slots.go:86
  refine tr_region ?_
  refine tr_box H rfl rfl rfl rfl rfl rfl ?_
  intro b1 w1 hb1 H
  refine tr_val (ov_assign rfl rfl) rfl rfl rfl ?_
  refine tr_nil (hK1 _ _ (TrC.keep [3, 2, 1] ?_))
  show TrC _ _ _ _ [(3, _), (2, _), (1, _)] _ _
  refine tr_seq (fun K2 hK2 => ?_)
  -- region 1: slots.go:86
  refine tr_region ?_
  refine tr_val (ov_fieldAddr rfl Try.underlying30 rfl (Try.sizeOf28 _) (by decide) rfl) rfl rfl rfl ?_
  refine tr_val (ov_load_blk H.get0 rfl (Try.isAgg28 _) rfl rfl rfl) rfl rfl rfl ?_
  refine tr_val (ov_load_blk (H.blk0 hb) rfl (Try.isAgg28 _) rfl rfl rfl) rfl rfl rfl ?_
  refine tr_val (ov_eql rfl rfl rfl) rfl rfl rfl ?_
  refine tr_val (ov_assign rfl rfl) rfl rfl rfl ?_
  refine tr_nil (hK2 _ _ (TrC.keep [3] ?_))
  show TrC _ _ _ _ [(3, _)] _ _
  refine tr_ret (post_ret1 (.inr rfl) rfl rfl ?_)
  exact ⟨rfl, H.drop0⟩

/-! slices.Clone[[]curfew/slots.Thing,curfew/slots.Thing] -/
set_option maxRecDepth 20000 in
theorem CloneT_c (B : Option Addr) (c : Nat) (L : List Thing) (w : World) (hR : Rd w B 3 (L.map encThing)) (hL : L.length ≤ 4294967296) : Does Try.prog 102 #[.slice B L.length c] w (fun v w' => ∃ A' c', v = .slice A' (L).length c' ∧ SH w noBlocks [vec A' c' 30 3 encThing L] w') := by
  refine does_enter1 Try.func102 rfl Try.ntmps102 rfl ?_
  have H := SH.start w noBlocks
  refine tr_seq (fun K1 hK1 => ?_)
  -- region 0: slices.go:355
  refine tr_region ?_
  refine tr_val (ov_assign rfl rfl) rfl rfl rfl ?_
  refine tr_nil (hK1 _ _ (TrC.keep [2, 0] ?_))
  show TrC _ _ _ _ [(2, _), (0, _)] _ _
  refine tr_seq (fun K2 hK2 => ?_)
  refine tr_seq (fun K3 hK3 => ?_)
  -- region 1: slices.go:357
  refine tr_region ?_
  refine tr_val (ov_move rfl rfl) rfl rfl rfl ?_
  refine tr_val (ov_seql_nil rfl Try.underlying32 rfl rfl) rfl rfl rfl ?_
  refine tr_nil (hK3 _ _ (TrC.keep [4, 2, 0] ?_))
  show TrC _ _ _ _ [(4, _), (2, _), (0, _)] _ _
  refine tr_condb rfl (fun c4 => ?_) (fun c4 => ?_)
  · skip
    refine tr_seq (fun K4 hK4 => ?_)
    -- region 2: slices.go:358
    refine tr_region ?_
    refine tr_val (ov_assign rfl rfl) rfl rfl rfl ?_
    refine tr_nil (hK4 _ _ (TrC.keep [2, 4, 0] ?_))
    show TrC _ _ _ _ [(2, _), (4, _), (0, _)] _ _
    have hL0 := rd_none hR c4
    subst hL0
    refine tr_ret (post_ret1 (.inr rfl) rfl rfl ?_)
    exact ⟨none, 0, rfl, H.addNil 30 3 encThing⟩
  · skip
    refine tr_skip (hK2 _ _ (TrC.keep [4, 2, 0] ?_))
    show TrC _ _ _ _ [(4, _), (2, _), (0, _)] _ _
    refine tr_seq (fun K5 hK5 => ?_)
    -- region 3: slices.go:362
    refine tr_region ?_
    refine tr_buildSlice0 H rfl Try.underlying32 info30 rfl rfl rfl ?_
    intro b1 w1 hb1 H
    have H := H.upd0 (upd_vec_of_blk (L := ([] : List Thing)) (enc := encThing) (sz := 3) H.get0 rfl lenThing (by simp))
    refine tr_val (ov_move rfl rfl) rfl rfl rfl ?_
    refine tr_append H.get0 (H.rd0 hR) rfl rfl rfl Try.underlying32 info30 rfl rfl (show Try.t30.bytes = 24 from rfl) rfl (by decide) lenThing oneThing (by simp; omega) (by simp [maxLen]; omega) rfl rfl rfl ?_
    intro A' c' w1 U; have H := H.upd0 U; clear U
    refine tr_val (ov_assign rfl rfl) rfl rfl rfl ?_
    refine tr_nil (hK5 _ _ (TrC.keep [2, 4, 0] ?_))
    show TrC _ _ _ _ [(2, _), (4, _), (0, _)] _ _
    refine tr_ret (post_ret1 (.inr rfl) rfl rfl ?_)
    exact ⟨A', c', rfl, H⟩

/-! (*curfew/slots.Ring).at -/
set_option maxRecDepth 20000 in
theorem at_none (d : Nat) (W : List RThing) (L : List Res) (w : World) (hL : RingL 161 30 d W L) (hO : (pack L).holds w) (id : Int) (hf : findR id W = none) : Does Try.prog 103 #[.pointer (some ⟨d, 0, none⟩), .int .u64 id] w (fun v w' => v = .tuple #[.int .i64 0, .int .i64 0, .bool false] ∧ SH w noBlocks [] w') := by
  obtain ⟨m, Z, u, E, ck, hR, rfl⟩ := hL
  have hlen := hR.len
  have hwf := hR.wf
  have hb : (blk d 161 (cellsR Z u m)).holds w := pack_hold hO (by simp [ringL])
  have hm : (mapS m E ck).holds w := pack_hold hO (by simp [ringL])
  have hsl : ∀ k : Int, 0 ≤ k → k ≤ 63 → (vecZ 30 (gt Z k)).holds w := fun k h0 h1 => pack_hold hO (by simp only [ringL, List.mem_cons]; exact .inr (.inr (List.mem_map.mpr ⟨_, gt_mem h0 (by omega), rfl⟩)))
  have hmf : mfind id E = none := by rw [hR.find, hf]; rfl
  refine does_enter2 Try.func103 rfl Try.ntmps103 rfl ?_
  have H := SH.start w noBlocks
  refine tr_seq (fun K1 hK1 => ?_)
  -- region 0: slots.go:78
  refine tr_region ?_
  refine tr_box H rfl rfl rfl rfl rfl rfl ?_
  intro b1 w1 hb1 H
  refine tr_val (ov_assign rfl rfl) rfl rfl rfl ?_
  refine tr_val (ov_assign rfl rfl) rfl rfl rfl ?_
  refine tr_val (ov_assign rfl rfl) rfl rfl rfl ?_
  refine tr_nil (hK1 _ _ (TrC.keep [6, 5, 4, 3, 0] ?_))
  show TrC _ _ _ _ [(6, _), (5, _), (4, _), (3, _), (0, _)] _ _
  refine tr_seq (fun K2 hK2 => ?_)
  refine tr_seq (fun K3 hK3 => ?_)
  -- region 1: slots.go:79
  refine tr_region ?_
  refine tr_val (ov_move rfl rfl) rfl rfl rfl ?_
  refine tr_call (none_ring d W _ _ ⟨m, Z, u, E, ck, hR, rfl⟩ (H.res0 hO)) rfl rfl rfl Try.call101 rfl rfl rfl ?_
  rintro _ w2 ⟨rfl, HC⟩
  have H := H.call0n HC
  refine tr_nil (hK3 _ _ (TrC.keep [8, 6, 5, 4, 3, 0] ?_))
  show TrC _ _ _ _ [(8, _), (6, _), (5, _), (4, _), (3, _), (0, _)] _ _
  refine tr_condb rfl (fun c8 => ?_) (fun c8 => ?_)
  · cases c8
  · skip
    refine tr_skip (hK2 _ _ (TrC.keep [8, 6, 5, 4, 3, 0] ?_))
    show TrC _ _ _ _ [(8, _), (6, _), (5, _), (4, _), (3, _), (0, _)] _ _
    refine tr_seq (fun K4 hK4 => ?_)
    -- region 3: slots.go:82
    refine tr_quiet mixed (by kernel_rfl) H ?_
    refine tq_val (fun _ H => ov_move rfl rfl) rfl rfl rfl ?_
    refine tq_val (fun _ H => ov_nilCheck rfl rfl) rfl rfl rfl ?_
    refine tq_val (fun _ H => ov_fieldAddr rfl Try.underlying161 rfl (Try.sizeOf158 _) (by decide) rfl) rfl rfl rfl ?_
    refine tq_val (fun _ H => ov_load_blk (H.res0 hb) rfl (Try.isAgg158 _) rfl rfl (cellsR_map hlen)) rfl rfl rfl ?_
    refine tq_val (fun _ H => ov_load_blk H.get0 rfl (Try.isAgg28 _) rfl rfl rfl) rfl rfl rfl ?_
    refine tq_val (fun _ H => ov_eq (ov_lookup (H.res0 hm) rfl Try.underlying158 Try.underlying28 (Try.zeroValue3 _) rfl rfl) (show _ = Value.tuple #[.int .i64 0, .bool false] by rw [hmf]; rfl)) rfl rfl rfl ?_
    refine tq_val (fun _ H => ov_move rfl rfl) rfl rfl rfl ?_
    refine tq_val (fun _ H => ov_extract rfl rfl rfl) rfl rfl rfl ?_
    refine tq_val (fun _ H => ov_extract rfl rfl rfl) rfl rfl rfl ?_
    refine tq_val (fun _ H => ov_assign rfl rfl) rfl rfl rfl ?_
    refine tq_val (fun _ H => ov_assign rfl rfl) rfl rfl rfl ?_
    refine tq_nil ?_
    intro w3 H
    refine hK4 _ _ (TrC.keep [6, 4, 8, 5, 3, 0] ?_)
    show TrC _ _ _ _ [(6, _), (4, _), (8, _), (5, _), (3, _), (0, _)] _ _
    refine tr_seq (fun K5 hK5 => ?_)
    refine tr_seq (fun K6 hK6 => ?_)
    -- region 4: slots.go:83
    refine tr_region ?_
    refine tr_val (ov_move rfl rfl) rfl rfl rfl ?_
    refine tr_val (ov_notb rfl rfl) rfl rfl rfl ?_
    refine tr_nil (hK6 _ _ (TrC.keep [19, 6, 4, 8, 5, 3, 0] ?_))
    show TrC _ _ _ _ [(19, _), (6, _), (4, _), (8, _), (5, _), (3, _), (0, _)] _ _
    refine tr_condb rfl (fun c19 => ?_) (fun c19 => ?_)
    · skip
      refine tr_seq (fun K7 hK7 => ?_)
      -- region 5: slots.go:84
      refine tr_region ?_
      refine tr_val (ov_assign rfl rfl) rfl rfl rfl ?_
      refine tr_val (ov_assign rfl rfl) rfl rfl rfl ?_
      refine tr_val (ov_assign rfl rfl) rfl rfl rfl ?_
      refine tr_nil (hK7 _ _ (TrC.keep [6, 5, 4, 19, 8, 3, 0] ?_))
      show TrC _ _ _ _ [(6, _), (5, _), (4, _), (19, _), (8, _), (3, _), (0, _)] _ _
      refine tr_ret (post_ret3 (.inr rfl) rfl rfl rfl rfl ?_)
      exact ⟨rfl, H.drop0⟩
    · exact absurd c19 (by decide)

/-! (*curfew/slots.Ring).at -/
set_option maxRecDepth 20000 in
theorem at_some (d : Nat) (W : List RThing) (L : List Res) (w : World) (hL : RingL 161 30 d W L) (hO : (pack L).holds w) (id : Int) (r : RThing) (hf : findR id W = some r) (hW : W.length ≤ 65536) : Does Try.prog 103 #[.pointer (some ⟨d, 0, none⟩), .int .u64 id] w (fun v w' => v = .tuple #[.int .i64 r.slot, .int .i64 (idxT id (slotL W r.slot)), .bool true] ∧ SH w noBlocks [] w') := by
  obtain ⟨m, Z, u, E, ck, hR, rfl⟩ := hL
  have hlen := hR.len
  have hwf := hR.wf
  have hb : (blk d 161 (cellsR Z u m)).holds w := pack_hold hO (by simp [ringL])
  have hm : (mapS m E ck).holds w := pack_hold hO (by simp [ringL])
  have hsl : ∀ k : Int, 0 ≤ k → k ≤ 63 → (vecZ 30 (gt Z k)).holds w := fun k h0 h1 => pack_hold hO (by simp only [ringL, List.mem_cons]; exact .inr (.inr (List.mem_map.mpr ⟨_, gt_mem h0 (by omega), rfl⟩)))
  have hmf : mfind id E = some r.slot := by rw [hR.find, hf]; rfl
  have hrs := hwf.slots r (findR_some hf).1
  have hle := slotL_le W r.slot
  have hzs := hR.slots r.slot hrs.1 hrs.2
  have hzl : (gt Z r.slot).2.2.length = (slotL W r.slot).length := by rw [hzs]
  refine does_enter2 Try.func103 rfl Try.ntmps103 rfl ?_
  have H := SH.start w noBlocks
  refine tr_seq (fun K1 hK1 => ?_)
  -- region 0: slots.go:78
  refine tr_region ?_
  refine tr_box H rfl rfl rfl rfl rfl rfl ?_
  intro b1 w1 hb1 H
  refine tr_val (ov_assign rfl rfl) rfl rfl rfl ?_
  refine tr_val (ov_assign rfl rfl) rfl rfl rfl ?_
  refine tr_val (ov_assign rfl rfl) rfl rfl rfl ?_
  refine tr_nil (hK1 _ _ (TrC.keep [6, 5, 4, 3, 0] ?_))
  show TrC _ _ _ _ [(6, _), (5, _), (4, _), (3, _), (0, _)] _ _
  refine tr_seq (fun K2 hK2 => ?_)
  refine tr_seq (fun K3 hK3 => ?_)
  -- region 1: slots.go:79
  refine tr_region ?_
  refine tr_val (ov_move rfl rfl) rfl rfl rfl ?_
  refine tr_call (none_ring d W _ _ ⟨m, Z, u, E, ck, hR, rfl⟩ (H.res0 hO)) rfl rfl rfl Try.call101 rfl rfl rfl ?_
  rintro _ w2 ⟨rfl, HC⟩
  have H := H.call0n HC
  refine tr_nil (hK3 _ _ (TrC.keep [8, 6, 5, 4, 3, 0] ?_))
  show TrC _ _ _ _ [(8, _), (6, _), (5, _), (4, _), (3, _), (0, _)] _ _
  refine tr_condb rfl (fun c8 => ?_) (fun c8 => ?_)
  · cases c8
  · skip
    refine tr_skip (hK2 _ _ (TrC.keep [8, 6, 5, 4, 3, 0] ?_))
    show TrC _ _ _ _ [(8, _), (6, _), (5, _), (4, _), (3, _), (0, _)] _ _
    refine tr_seq (fun K4 hK4 => ?_)
    -- region 3: slots.go:82
    refine tr_quiet mixed (by kernel_rfl) H ?_
    refine tq_val (fun _ H => ov_move rfl rfl) rfl rfl rfl ?_
    refine tq_val (fun _ H => ov_nilCheck rfl rfl) rfl rfl rfl ?_
    refine tq_val (fun _ H => ov_fieldAddr rfl Try.underlying161 rfl (Try.sizeOf158 _) (by decide) rfl) rfl rfl rfl ?_
    refine tq_val (fun _ H => ov_load_blk (H.res0 hb) rfl (Try.isAgg158 _) rfl rfl (cellsR_map hlen)) rfl rfl rfl ?_
    refine tq_val (fun _ H => ov_load_blk H.get0 rfl (Try.isAgg28 _) rfl rfl rfl) rfl rfl rfl ?_
    refine tq_val (fun _ H => ov_eq (ov_lookup (H.res0 hm) rfl Try.underlying158 Try.underlying28 (Try.zeroValue3 _) rfl rfl) (show _ = Value.tuple #[.int .i64 r.slot, .bool true] by rw [hmf]; rfl)) rfl rfl rfl ?_
    refine tq_val (fun _ H => ov_move rfl rfl) rfl rfl rfl ?_
    refine tq_val (fun _ H => ov_extract rfl rfl rfl) rfl rfl rfl ?_
    refine tq_val (fun _ H => ov_extract rfl rfl rfl) rfl rfl rfl ?_
    refine tq_val (fun _ H => ov_assign rfl rfl) rfl rfl rfl ?_
    refine tq_val (fun _ H => ov_assign rfl rfl) rfl rfl rfl ?_
    refine tq_nil ?_
    intro w3 H
    refine hK4 _ _ (TrC.keep [6, 4, 8, 5, 3, 0] ?_)
    show TrC _ _ _ _ [(6, _), (4, _), (8, _), (5, _), (3, _), (0, _)] _ _
    refine tr_seq (fun K5 hK5 => ?_)
    refine tr_seq (fun K6 hK6 => ?_)
    -- region 4: slots.go:83
    refine tr_region ?_
    refine tr_val (ov_move rfl rfl) rfl rfl rfl ?_
    refine tr_val (ov_notb rfl rfl) rfl rfl rfl ?_
    refine tr_nil (hK6 _ _ (TrC.keep [19, 6, 4, 8, 5, 3, 0] ?_))
    show TrC _ _ _ _ [(19, _), (6, _), (4, _), (8, _), (5, _), (3, _), (0, _)] _ _
    refine tr_condb rfl (fun c19 => ?_) (fun c19 => ?_)
    · exact absurd c19 (by decide)
    · skip
      refine tr_skip (hK5 _ _ (TrC.keep [19, 6, 4, 8, 5, 3, 0] ?_))
      show TrC _ _ _ _ [(19, _), (6, _), (4, _), (8, _), (5, _), (3, _), (0, _)] _ _
      refine tr_seq (fun K7 hK7 => ?_)
      -- region 6: slots.go:86
      refine tr_region ?_
      refine tr_val (ov_move rfl rfl) rfl rfl rfl ?_
      refine tr_val (ov_move rfl rfl) rfl rfl rfl ?_
      refine tr_val (ov_move rfl rfl) rfl rfl rfl ?_
      refine tr_val (ov_nilCheck rfl rfl) rfl rfl rfl ?_
      refine tr_val (ov_fieldAddr rfl Try.underlying161 rfl (Try.sizeOf159 _) (by decide) rfl) rfl rfl rfl ?_
      refine tr_val (ov_indexAddrA rfl Try.underlying159 (Try.sizeOf32 _) rfl rfl (by omega) (by omega)) rfl rfl rfl ?_
      refine tr_val (ov_load_blk (H.res0 hb) rfl (Try.isAgg32 _) rfl (adr_slot d (r.slot).toNat) (cellsR_slot (k := r.slot) (by omega) (by omega))) rfl rfl rfl ?_
      refine tr_val (ov_makeFunc1 rfl rfl) rfl rfl rfl ?_
      refine tr_call (IndexT_c (gt Z r.slot).1 (gt Z r.slot).2.1 (gt Z r.slot).2.2 _ (vec_rd (H.res0 (hsl r.slot hrs.1 hrs.2)) lenThing (by decide)) (by omega) 116 [.pointer (some ⟨b1, 0, none⟩)] (fun t => decide (t.id = id)) Try.call116 (fun t w1 h => at1_c t b1 id w1 (h.blk0 H.get0))) rfl rfl rfl Try.call115 rfl rfl rfl ?_
      rintro _ w4 ⟨rfl, HC⟩
      have H := H.call0n HC
      refine tr_val (ov_assign rfl rfl) rfl rfl rfl ?_
      refine tr_val (ov_assign rfl rfl) rfl rfl rfl ?_
      refine tr_val (ov_assign rfl rfl) rfl rfl rfl ?_
      refine tr_nil (hK7 _ _ (TrC.keep [6, 5, 4, 19, 8, 3, 0] ?_))
      show TrC _ _ _ _ [(6, _), (5, _), (4, _), (19, _), (8, _), (3, _), (0, _)] _ _
      refine tr_ret (post_ret3 (.inr rfl) rfl rfl rfl rfl ?_)
      rw [hzs]; exact ⟨rfl, H.drop0⟩

theorem NoRing.later {w w' : World} {p : Option Addr} {rs : List Res} (h : NoRing w p) (H : SH w noBlocks rs w') : NoRing w' p := by
  rcases h with h | ⟨d, Z, u, h1, h2, h3⟩
  · exact .inl h
  · exact .inr ⟨d, Z, u, h1, h2, H.res0 h3⟩

/-! (*curfew/slots.Ring).at -/
set_option maxRecDepth 20000 in
theorem at_n (p : Option Addr) (w : World) (hp : NoRing w p) (id : Int) : Does Try.prog 103 #[.pointer p, .int .u64 id] w (fun v w' => v = .tuple #[.int .i64 0, .int .i64 0, .bool false] ∧ SH w noBlocks [] w') := by
  refine does_enter2 Try.func103 rfl Try.ntmps103 rfl ?_
  have H := SH.start w noBlocks
  refine tr_seq (fun K1 hK1 => ?_)
  -- region 0: slots.go:78
  refine tr_region ?_
  refine tr_box H rfl rfl rfl rfl rfl rfl ?_
  intro b1 w1 hb1 H
  refine tr_val (ov_assign rfl rfl) rfl rfl rfl ?_
  refine tr_val (ov_assign rfl rfl) rfl rfl rfl ?_
  refine tr_val (ov_assign rfl rfl) rfl rfl rfl ?_
  refine tr_nil (hK1 _ _ (TrC.keep [6, 5, 4, 3, 0] ?_))
  show TrC _ _ _ _ [(6, _), (5, _), (4, _), (3, _), (0, _)] _ _
  refine tr_seq (fun K2 hK2 => ?_)
  refine tr_seq (fun K3 hK3 => ?_)
  -- region 1: slots.go:79
  refine tr_region ?_
  refine tr_val (ov_move rfl rfl) rfl rfl rfl ?_
  refine tr_call (none_n p _ (hp.later H)) rfl rfl rfl Try.call101 rfl rfl rfl ?_
  rintro _ w2 ⟨rfl, HC⟩
  have H := H.call0n HC
  refine tr_nil (hK3 _ _ (TrC.keep [8, 6, 5, 4, 3, 0] ?_))
  show TrC _ _ _ _ [(8, _), (6, _), (5, _), (4, _), (3, _), (0, _)] _ _
  refine tr_condb rfl (fun c8 => ?_) (fun c8 => ?_)
  · skip
    refine tr_seq (fun K4 hK4 => ?_)
    -- region 2: slots.go:80
    refine tr_region ?_
    refine tr_val (ov_assign rfl rfl) rfl rfl rfl ?_
    refine tr_val (ov_assign rfl rfl) rfl rfl rfl ?_
    refine tr_val (ov_assign rfl rfl) rfl rfl rfl ?_
    refine tr_nil (hK4 _ _ (TrC.keep [6, 5, 4, 8, 3, 0] ?_))
    show TrC _ _ _ _ [(6, _), (5, _), (4, _), (8, _), (3, _), (0, _)] _ _
    refine tr_ret (post_ret3 (.inr rfl) rfl rfl rfl rfl ?_)
    exact ⟨rfl, H.drop0⟩
  · cases c8

/-! (*curfew/slots.Ring).Get -/
set_option maxRecDepth 20000 in
theorem ringGet_none (d : Nat) (W : List RThing) (L : List Res) (w : World) (hL : RingL 161 30 d W L) (hO : (pack L).holds w) (id : Int) (hf : findR id W = none) : Does Try.prog 70 #[.pointer (some ⟨d, 0, none⟩), .int .u64 id] w (fun v w' => v = .tuple #[.agg #[.int .u64 0, .int .u64 0, .int .i64 0], .int .i64 0, .bool false] ∧ SH w noBlocks [] w') := by
  refine does_enter2 Try.func70 rfl Try.ntmps70 rfl ?_
  have H := SH.start w noBlocks
  refine tr_seq (fun K1 hK1 => ?_)
  -- region 0: slots.go:90
  refine tr_region ?_
  refine tr_alloc H rfl (Try.zeroValue30 _) rfl rfl rfl rfl ?_
  intro b1 w1 hb1 H
  refine tr_val (ov_assign rfl rfl) rfl rfl rfl ?_
  refine tr_val (ov_assign rfl rfl) rfl rfl rfl ?_
  refine tr_nil (hK1 _ _ (TrC.keep [6, 5, 4, 0, 1] ?_))
  show TrC _ _ _ _ [(6, _), (5, _), (4, _), (0, _), (1, _)] _ _
  refine tr_seq (fun K2 hK2 => ?_)
  -- region 1: slots.go:91
  refine tr_region ?_
  refine tr_val (ov_move rfl rfl) rfl rfl rfl ?_
  refine tr_val (ov_move rfl rfl) rfl rfl rfl ?_
  refine tr_call (at_none d W L _ hL (H.res0 hO) id hf) rfl rfl rfl Try.call103 rfl rfl rfl ?_
  rintro _ w2 ⟨rfl, HC⟩
  have H := H.call0n HC
  refine tr_val (ov_move rfl rfl) rfl rfl rfl ?_
  refine tr_val (ov_extract rfl rfl rfl) rfl rfl rfl ?_
  refine tr_val (ov_extract rfl rfl rfl) rfl rfl rfl ?_
  refine tr_val (ov_extract rfl rfl rfl) rfl rfl rfl ?_
  refine tr_val (ov_assign rfl rfl) rfl rfl rfl ?_
  refine tr_val (ov_assign rfl rfl) rfl rfl rfl ?_
  refine tr_val (ov_assign rfl rfl) rfl rfl rfl ?_
  refine tr_nil (hK2 _ _ (TrC.keep [6, 7, 5, 4, 0] ?_))
  show TrC _ _ _ _ [(6, _), (7, _), (5, _), (4, _), (0, _)] _ _
  refine tr_seq (fun K3 hK3 => ?_)
  refine tr_seq (fun K4 hK4 => ?_)
  -- region 2: slots.go:92
  refine tr_region ?_
  refine tr_val (ov_move rfl rfl) rfl rfl rfl ?_
  refine tr_val (ov_notb rfl rfl) rfl rfl rfl ?_
  refine tr_nil (hK4 _ _ (TrC.keep [16, 6, 7, 5, 4, 0] ?_))
  show TrC _ _ _ _ [(16, _), (6, _), (7, _), (5, _), (4, _), (0, _)] _ _
  refine tr_condb rfl (fun c16 => ?_) (fun c16 => ?_)
  · skip
    refine tr_seq (fun K5 hK5 => ?_)
    -- region 3: slots.go:93
    refine tr_region ?_
    refine tr_val (ov_load_blkN H.get0 rfl (Try.isAgg30 _) (Try.sizeOf30 _) rfl rfl rfl) rfl rfl rfl ?_
    (refine tr_storeW H.get0 rfl (Try.sizeOf30 _) rfl rfl rfl rfl rfl rfl rfl rfl ?_; intro w3 U; have H := H.upd0 U; clear U)
    refine tr_val (ov_assign rfl rfl) rfl rfl rfl ?_
    refine tr_val (ov_assign rfl rfl) rfl rfl rfl ?_
    refine tr_nil (hK5 _ _ (TrC.keep [6, 5, 16, 7, 4, 0] ?_))
    show TrC _ _ _ _ [(6, _), (5, _), (16, _), (7, _), (4, _), (0, _)] _ _
    refine tr_ret (post_ret3 (.inr rfl) rfl (by exact ⟨_, rfl, res_blkN H.get0 (Try.isAgg30 _) (Try.sizeOf30 _) rfl rfl⟩) rfl rfl ?_)
    exact ⟨rfl, H.drop0⟩
  · exact absurd c16 (by decide)

/-! (*curfew/slots.Ring).Get -/
set_option maxRecDepth 20000 in
theorem ringGet_n (p : Option Addr) (w : World) (hp : NoRing w p) (id : Int) : Does Try.prog 70 #[.pointer p, .int .u64 id] w (fun v w' => v = .tuple #[.agg #[.int .u64 0, .int .u64 0, .int .i64 0], .int .i64 0, .bool false] ∧ SH w noBlocks [] w') := by
  refine does_enter2 Try.func70 rfl Try.ntmps70 rfl ?_
  have H := SH.start w noBlocks
  refine tr_seq (fun K1 hK1 => ?_)
  -- region 0: slots.go:90
  refine tr_region ?_
  refine tr_alloc H rfl (Try.zeroValue30 _) rfl rfl rfl rfl ?_
  intro b1 w1 hb1 H
  refine tr_val (ov_assign rfl rfl) rfl rfl rfl ?_
  refine tr_val (ov_assign rfl rfl) rfl rfl rfl ?_
  refine tr_nil (hK1 _ _ (TrC.keep [6, 5, 4, 0, 1] ?_))
  show TrC _ _ _ _ [(6, _), (5, _), (4, _), (0, _), (1, _)] _ _
  refine tr_seq (fun K2 hK2 => ?_)
  -- region 1: slots.go:91
  refine tr_region ?_
  refine tr_val (ov_move rfl rfl) rfl rfl rfl ?_
  refine tr_val (ov_move rfl rfl) rfl rfl rfl ?_
  refine tr_call (at_n p _ (hp.later H) id) rfl rfl rfl Try.call103 rfl rfl rfl ?_
  rintro _ w2 ⟨rfl, HC⟩
  have H := H.call0n HC
  refine tr_val (ov_move rfl rfl) rfl rfl rfl ?_
  refine tr_val (ov_extract rfl rfl rfl) rfl rfl rfl ?_
  refine tr_val (ov_extract rfl rfl rfl) rfl rfl rfl ?_
  refine tr_val (ov_extract rfl rfl rfl) rfl rfl rfl ?_
  refine tr_val (ov_assign rfl rfl) rfl rfl rfl ?_
  refine tr_val (ov_assign rfl rfl) rfl rfl rfl ?_
  refine tr_val (ov_assign rfl rfl) rfl rfl rfl ?_
  refine tr_nil (hK2 _ _ (TrC.keep [6, 7, 5, 4, 0] ?_))
  show TrC _ _ _ _ [(6, _), (7, _), (5, _), (4, _), (0, _)] _ _
  refine tr_seq (fun K3 hK3 => ?_)
  refine tr_seq (fun K4 hK4 => ?_)
  -- region 2: slots.go:92
  refine tr_region ?_
  refine tr_val (ov_move rfl rfl) rfl rfl rfl ?_
  refine tr_val (ov_notb rfl rfl) rfl rfl rfl ?_
  refine tr_nil (hK4 _ _ (TrC.keep [16, 6, 7, 5, 4, 0] ?_))
  show TrC _ _ _ _ [(16, _), (6, _), (7, _), (5, _), (4, _), (0, _)] _ _
  refine tr_condb rfl (fun c16 => ?_) (fun c16 => ?_)
  · skip
    refine tr_seq (fun K5 hK5 => ?_)
    -- region 3: slots.go:93
    refine tr_region ?_
    refine tr_val (ov_load_blkN H.get0 rfl (Try.isAgg30 _) (Try.sizeOf30 _) rfl rfl rfl) rfl rfl rfl ?_
    (refine tr_storeW H.get0 rfl (Try.sizeOf30 _) rfl rfl rfl rfl rfl rfl rfl rfl ?_; intro w3 U; have H := H.upd0 U; clear U)
    refine tr_val (ov_assign rfl rfl) rfl rfl rfl ?_
    refine tr_val (ov_assign rfl rfl) rfl rfl rfl ?_
    refine tr_nil (hK5 _ _ (TrC.keep [6, 5, 16, 7, 4, 0] ?_))
    show TrC _ _ _ _ [(6, _), (5, _), (16, _), (7, _), (4, _), (0, _)] _ _
    refine tr_ret (post_ret3 (.inr rfl) rfl (by exact ⟨_, rfl, res_blkN H.get0 (Try.isAgg30 _) (Try.sizeOf30 _) rfl rfl⟩) rfl rfl ?_)
    exact ⟨rfl, H.drop0⟩
  · exact absurd c16 (by decide)

/-! (*curfew/slots.Ring).Get -/
set_option maxRecDepth 20000 in
theorem ringGet_some (d : Nat) (W : List RThing) (L : List Res) (w : World) (hL : RingL 161 30 d W L) (hO : (pack L).holds w) (id : Int) (r : RThing) (hf : findR id W = some r) (hW : W.length ≤ 65536) : Does Try.prog 70 #[.pointer (some ⟨d, 0, none⟩), .int .u64 id] w (fun v w' => v = .tuple #[.agg #[.int .u64 r.id, .int .u64 r.gen, .int .i64 r.due], .int .i64 r.slot, .bool true] ∧ SH w noBlocks [] w') := by
  have hL0 := hL
  obtain ⟨m, Z, u, E, ck, hR, rfl⟩ := hL
  have hlen := hR.len
  have hwf := hR.wf
  have hb : (blk d 161 (cellsR Z u m)).holds w := pack_hold hO (by simp [ringL])
  have hm : (mapS m E ck).holds w := pack_hold hO (by simp [ringL])
  have hsl : ∀ k : Int, 0 ≤ k → k ≤ 63 → (vecZ 30 (gt Z k)).holds w := fun k h0 h1 => pack_hold hO (by simp only [ringL, List.mem_cons]; exact .inr (.inr (List.mem_map.mpr ⟨_, gt_mem h0 (by omega), rfl⟩)))
  have hrs := hwf.slots r (findR_some hf).1
  have hle := slotL_le W r.slot
  have hzs := hR.slots r.slot hrs.1 hrs.2
  obtain ⟨hj0, hj1, hj2, _⟩ := idxT_some (gt_findT hf)
  rw [← hzs] at hj0 hj1 hj2
  refine does_enter2 Try.func70 rfl Try.ntmps70 rfl ?_
  have H := SH.start w noBlocks
  refine tr_seq (fun K1 hK1 => ?_)
  -- region 0: slots.go:90
  refine tr_region ?_
  refine tr_alloc H rfl (Try.zeroValue30 _) rfl rfl rfl rfl ?_
  intro b1 w1 hb1 H
  refine tr_val (ov_assign rfl rfl) rfl rfl rfl ?_
  refine tr_val (ov_assign rfl rfl) rfl rfl rfl ?_
  refine tr_nil (hK1 _ _ (TrC.keep [6, 5, 4, 0, 1] ?_))
  show TrC _ _ _ _ [(6, _), (5, _), (4, _), (0, _), (1, _)] _ _
  refine tr_seq (fun K2 hK2 => ?_)
  -- region 1: slots.go:91
  refine tr_region ?_
  refine tr_val (ov_move rfl rfl) rfl rfl rfl ?_
  refine tr_val (ov_move rfl rfl) rfl rfl rfl ?_
  refine tr_call (at_some d W _ _ hL0 (H.res0 hO) id r hf hW) rfl rfl rfl Try.call103 rfl rfl rfl ?_
  rintro _ w2 ⟨rfl, HC⟩
  have H := H.call0n HC
  rw [← hzs]
  refine tr_val (ov_move rfl rfl) rfl rfl rfl ?_
  refine tr_val (ov_extract rfl rfl rfl) rfl rfl rfl ?_
  refine tr_val (ov_extract rfl rfl rfl) rfl rfl rfl ?_
  refine tr_val (ov_extract rfl rfl rfl) rfl rfl rfl ?_
  refine tr_val (ov_assign rfl rfl) rfl rfl rfl ?_
  refine tr_val (ov_assign rfl rfl) rfl rfl rfl ?_
  refine tr_val (ov_assign rfl rfl) rfl rfl rfl ?_
  refine tr_nil (hK2 _ _ (TrC.keep [6, 7, 5, 4, 0] ?_))
  show TrC _ _ _ _ [(6, _), (7, _), (5, _), (4, _), (0, _)] _ _
  refine tr_seq (fun K3 hK3 => ?_)
  refine tr_seq (fun K4 hK4 => ?_)
  -- region 2: slots.go:92
  refine tr_region ?_
  refine tr_val (ov_move rfl rfl) rfl rfl rfl ?_
  refine tr_val (ov_notb rfl rfl) rfl rfl rfl ?_
  refine tr_nil (hK4 _ _ (TrC.keep [16, 6, 7, 5, 4, 0] ?_))
  show TrC _ _ _ _ [(16, _), (6, _), (7, _), (5, _), (4, _), (0, _)] _ _
  refine tr_condb rfl (fun c16 => ?_) (fun c16 => ?_)
  · exact absurd c16 (by decide)
  · skip
    refine tr_skip (hK3 _ _ (TrC.keep [16, 6, 7, 5, 4, 0] ?_))
    show TrC _ _ _ _ [(16, _), (6, _), (7, _), (5, _), (4, _), (0, _)] _ _
    refine tr_seq (fun K5 hK5 => ?_)
    -- region 4: slots.go:95
    refine tr_region ?_
    refine tr_val (ov_move rfl rfl) rfl rfl rfl ?_
    refine tr_val (ov_move rfl rfl) rfl rfl rfl ?_
    refine tr_val (ov_nilCheck rfl rfl) rfl rfl rfl ?_
    refine tr_val (ov_fieldAddr rfl Try.underlying161 rfl (Try.sizeOf159 _) (by decide) rfl) rfl rfl rfl ?_
    refine tr_val (ov_indexAddrA rfl Try.underlying159 (Try.sizeOf32 _) rfl rfl (by omega) (by omega)) rfl rfl rfl ?_
    refine tr_val (ov_load_blk (H.res0 hb) rfl (Try.isAgg32 _) rfl (adr_slot d (r.slot).toNat) (cellsR_slot (k := r.slot) (by omega) (by omega))) rfl rfl rfl ?_
    refine tr_val (ov_move rfl rfl) rfl rfl rfl ?_
    refine tr_val (ov_indexAddrR (vec_rd (H.res0 (hsl r.slot hrs.1 hrs.2)) lenThing (by decide)) rfl Try.underlying32 (Try.sizeOf30 _) rfl rfl (by omega) (by omega)) rfl rfl rfl ?_
    refine tr_val (ld_Thing (vec_rd (H.res0 (hsl r.slot hrs.1 hrs.2)) lenThing (by decide)) rfl (Try.isAgg30 _) (Try.sizeOf30 _) rfl (by omega) (by omega)) rfl rfl rfl ?_
    refine tr_val (ov_move rfl rfl) rfl rfl rfl ?_
    (refine tr_storeW H.get0 rfl (Try.sizeOf30 _) rfl rfl rfl rfl rfl rfl rfl rfl ?_; intro w3 U; have H := H.upd0 U; clear U)
    refine tr_val (ov_assign rfl rfl) rfl rfl rfl ?_
    refine tr_val (ov_assign rfl rfl) rfl rfl rfl ?_
    refine tr_nil (hK5 _ _ (TrC.keep [6, 5, 16, 4, 0] ?_))
    show TrC _ _ _ _ [(6, _), (5, _), (16, _), (4, _), (0, _)] _ _
    refine tr_ret (post_ret3 (.inr rfl) rfl (by exact ⟨_, rfl, res_blkN H.get0 (Try.isAgg30 _) (Try.sizeOf30 _) rfl rfl⟩) rfl rfl ?_)
    rw [hj2]; exact ⟨rfl, H.drop0⟩

/-! (*curfew/slots.Ring).Put -/
set_option maxRecDepth 20000 in
theorem ringPut_c (d : Nat) (W : List RThing) (L : List Res) (w : World) (hL : RingL 161 30 d W L) (hO : (pack L).holds w) (s : Int) (t : Thing) (hW : W.length ≤ 65536) : Does Try.prog 94 #[.pointer (some ⟨d, 0, none⟩), .int .i64 s, .agg #[.int .u64 t.id, .int .u64 t.gen, .int .i64 t.due]] w (fun v w' => v = .int .i64 (putV W s t).2 ∧ ∃ L', RingL 161 30 d (putV W s t).1 L' ∧ SH w (pack L).foot [pack L'] w') := by
  refine does_enter3 Try.func94 rfl Try.ntmps94 rfl ?_
  have H := SH.own1 hO
  refine tr_seq (fun K1 hK1 => ?_)
  -- region 0: slots.go:61
  refine tr_region ?_
  refine tr_box H rfl rfl rfl rfl rfl rfl ?_
  intro b1 w1 hb1 H
  refine tr_val (ov_assign rfl rfl) rfl rfl rfl ?_
  refine tr_nil (hK1 _ _ (TrC.keep [6, 5, 0, 1] ?_))
  show TrC _ _ _ _ [(6, _), (5, _), (0, _), (1, _)] _ _
  refine tr_seq (fun K2 hK2 => ?_)
  refine tr_block ?_
  refine tr_seq (fun K3 hK3 => ?_)
  -- region 1: slots.go:63
  refine tr_region ?_
  refine tr_val (ov_move rfl rfl) rfl rfl rfl ?_
  refine tr_call (none_ring d W L _ hL H.get1) rfl rfl rfl Try.call101 rfl rfl rfl ?_
  rintro _ w2 ⟨rfl, HC⟩
  have H := H.call0n HC
  refine tr_val (ov_assign rfl rfl) rfl rfl rfl ?_
  refine tr_nil (hK3 _ _ (TrC.keep [9, 6, 5, 0, 1] ?_))
  show TrC _ _ _ _ [(9, _), (6, _), (5, _), (0, _), (1, _)] _ _
  refine tr_condb rfl (fun c9 => ?_) (fun c9 => ?_)
  · cases c9
  · skip
    refine tr_seq (fun K4 hK4 => ?_)
    -- region 3: slots.go:65
    refine tr_region ?_
    refine tr_val (ov_move rfl rfl) rfl rfl rfl ?_
    refine tr_val (ov_lss rfl rfl rfl) rfl rfl rfl ?_
    refine tr_val (ov_move rfl rfl) rfl rfl rfl ?_
    refine tr_split (t := 15) rfl (fun s15 => ?_) (fun s15 => ?_)
    · skip
      refine tr_pass rfl rfl rfl ?_
      refine tr_pass rfl rfl rfl ?_
      refine tr_val (ov_pick (vb := undef) rfl rfl rfl rfl) rfl rfl rfl ?_
      refine tr_val (ov_assign rfl rfl) rfl rfl rfl ?_
      refine tr_nil (hK4 _ _ (TrC.keep [12, 9, 6, 5, 0, 1] ?_))
      show TrC _ _ _ _ [(12, _), (9, _), (6, _), (5, _), (0, _), (1, _)] _ _
      refine tr_cond_t rfl rfl ?_
      refine tr_seq (fun K5 hK5 => ?_)
      -- region 4: slots.go:66
      refine tr_region ?_
      refine tr_val (ov_assign rfl rfl) rfl rfl rfl ?_
      refine tr_nil (hK5 _ _ (TrC.keep [6, 12, 9, 5, 0, 1] ?_))
      show TrC _ _ _ _ [(6, _), (12, _), (9, _), (5, _), (0, _), (1, _)] _ _
      refine tr_ret (post_ret1 (.inr rfl) rfl rfl ?_)
      unfold putV; rw [if_pos (by omega)]; exact ⟨rfl, L, hL, H.drop0⟩
    · skip
      refine tr_val (ov_move rfl rfl) rfl rfl rfl ?_
      refine tr_val (ov_geq rfl rfl rfl) rfl rfl rfl ?_
      refine tr_val (ov_pick_f (va := undef) rfl rfl rfl rfl) rfl rfl rfl ?_
      refine tr_val (ov_assign rfl rfl) rfl rfl rfl ?_
      refine tr_nil (hK4 _ _ (TrC.keep [12, 9, 6, 5, 0, 1] ?_))
      show TrC _ _ _ _ [(12, _), (9, _), (6, _), (5, _), (0, _), (1, _)] _ _
      refine tr_cond rfl (fun c12 => ?_) (fun c12 => ?_)
      · skip
        refine tr_seq (fun K6 hK6 => ?_)
        -- region 4: slots.go:66
        refine tr_region ?_
        refine tr_val (ov_assign rfl rfl) rfl rfl rfl ?_
        refine tr_nil (hK6 _ _ (TrC.keep [6, 12, 9, 5, 0, 1] ?_))
        show TrC _ _ _ _ [(6, _), (12, _), (9, _), (5, _), (0, _), (1, _)] _ _
        refine tr_ret (post_ret1 (.inr rfl) rfl rfl ?_)
        unfold putV; rw [if_pos (by omega)]; exact ⟨rfl, L, hL, H.drop0⟩
      · skip
        refine tr_skip (hK2 _ _ (TrC.keep [12, 9, 6, 5, 0, 1] ?_))
        show TrC _ _ _ _ [(12, _), (9, _), (6, _), (5, _), (0, _), (1, _)] _ _
        refine tr_seq (fun K7 hK7 => ?_)
        refine tr_seq (fun K8 hK8 => ?_)
        -- region 5: slots.go:68
        have hL0 := hL
        obtain ⟨m, Z, u, E, ck, hR, rfl⟩ := hL
        have hu := hR.used
        subst hu
        have hlen := hR.len
        have hwf := hR.wf
        have hul := usedN_lt hwf
        have H := SH.unpackL [_] H
        change SH w (pack (ringL 161 30 d m Z (usedN W : Nat) E ck)).foot (blk b1 30 [.int .u64 t.id, .int .u64 t.gen, .int .i64 t.due] :: blk d 161 (cellsR Z (usedN W : Nat) m) :: mapS m E ck :: Z.map (vecZ 30)) _ at H
        refine tr_quiet mixed (by kernel_rfl) H ?_
        refine tq_val (fun _ H => ov_move rfl rfl) rfl rfl rfl ?_
        refine tq_val (fun _ H => ov_nilCheck rfl rfl) rfl rfl rfl ?_
        refine tq_val (fun _ H => ov_fieldAddr rfl Try.underlying161 rfl (Try.sizeOf158 _) (by decide) rfl) rfl rfl rfl ?_
        refine tq_val (fun _ H => ov_load_blk H.get1 rfl (Try.isAgg158 _) rfl rfl (cellsR_map hlen)) rfl rfl rfl ?_
        refine tq_val (fun _ H => ov_fieldAddr rfl Try.underlying30 rfl (Try.sizeOf28 _) (by decide) rfl) rfl rfl rfl ?_
        refine tq_val (fun _ H => ov_load_blk H.get0 rfl (Try.isAgg28 _) rfl rfl rfl) rfl rfl rfl ?_
        refine tq_val (fun _ H => ov_lookup H.get2 rfl Try.underlying158 Try.underlying28 (Try.zeroValue3 _) rfl rfl) rfl rfl rfl ?_
        refine tq_val (fun _ H => ov_move rfl rfl) rfl rfl rfl ?_
        refine tq_val (fun _ H => ov_extract rfl rfl rfl) rfl rfl rfl ?_
        refine tq_val (fun _ H => ov_extract rfl rfl rfl) rfl rfl rfl ?_
        refine tq_val (fun _ H => ov_assign rfl rfl) rfl rfl rfl ?_
        refine tq_val (fun _ H => ov_assign rfl rfl) rfl rfl rfl ?_
        refine tq_nil ?_
        intro w3 H
        refine hK8 _ _ (TrC.keep [8, 12, 9, 6, 5, 0, 1] ?_)
        show TrC _ _ _ _ [(8, _), (12, _), (9, _), (6, _), (5, _), (0, _), (1, _)] _ _
        refine tr_seq (fun K9 hK9 => ?_)
        -- region 6: slots.go:68
        refine tr_region ?_
        refine tr_val (ov_move rfl rfl) rfl rfl rfl ?_
        refine tr_nil (hK9 _ _ (TrC.keep [29, 12, 9, 6, 5, 0, 1] ?_))
        show TrC _ _ _ _ [(29, _), (12, _), (9, _), (6, _), (5, _), (0, _), (1, _)] _ _
        refine tr_condb rfl (fun c29 => ?_) (fun c29 => ?_)
        · skip
          refine tr_seq (fun K10 hK10 => ?_)
          -- region 7: slots.go:69
          refine tr_region ?_
          refine tr_val (ov_assign rfl rfl) rfl rfl rfl ?_
          refine tr_nil (hK10 _ _ (TrC.keep [6, 29, 12, 9, 5, 0, 1] ?_))
          show TrC _ _ _ _ [(6, _), (29, _), (12, _), (9, _), (5, _), (0, _), (1, _)] _ _
          refine tr_ret (post_ret1 (.inr rfl) rfl rfl ?_)
          have hs : (findR t.id W).isSome = true := by rw [hR.find] at c29; simpa using c29
          unfold putV; rw [if_neg (by omega), if_pos hs]; exact ⟨rfl, _, hL0, SH.pack1 H.drop0⟩
        · skip
          refine tr_skip (hK7 _ _ (TrC.keep [29, 12, 9, 6, 5, 0, 1] ?_))
          show TrC _ _ _ _ [(29, _), (12, _), (9, _), (6, _), (5, _), (0, _), (1, _)] _ _
          refine tr_seq (fun K11 hK11 => ?_)
          -- region 8: slots.go:71
          have hfn : findR t.id W = none := by rw [hR.find] at c29; cases h : findR t.id W with | none => rfl | some x => rw [h] at c29; cases c29
          have hmf : mfind t.id E = none := by rw [hR.find, hfn]; rfl
          have hle := slotL_le W s
          have hzs := hR.slots s (by omega) (by omega)
          have hzl : (gt Z s).2.2.length = (slotL W s).length := by rw [hzs]
          have hst : ∀ z : Slot, (cellsR Z (usedN W : Nat) m).set s.toNat (cellZ z) = cellsR (Z.set s.toNat z) (usedN W : Nat) m := fun z => cellsR_setSlot z (by omega) (by omega)
          refine tr_held (fun w' => (blk b1 30 [.int .u64 t.id, .int .u64 t.gen, .int .i64 t.due]).holds w') mixed rfl H ?_
          intro w4 H
          refine th_take 0 rfl (by kernel_rfl) (by kernel_rfl) (by kernel_rfl) ((by exact H.get0)) (fun _ hS => ov_move rfl rfl) rfl rfl rfl ?_
          refine th_take 1 rfl (by kernel_rfl) (by kernel_rfl) (by kernel_rfl) ((by exact H.get0)) (fun _ hS => ov_move rfl rfl) rfl rfl rfl ?_
          refine th_take 2 rfl (by kernel_rfl) (by kernel_rfl) (by kernel_rfl) ((by exact H.get0)) (fun _ hS => ov_move rfl rfl) rfl rfl rfl ?_
          refine th_take 3 rfl (by kernel_rfl) (by kernel_rfl) (by kernel_rfl) ((by exact H.get0)) (fun _ hS => ov_move rfl rfl) rfl rfl rfl ?_
          refine th_take 4 rfl (by kernel_rfl) (by kernel_rfl) (by kernel_rfl) ((by exact H.get0)) (fun _ hS => ov_nilCheck rfl rfl) rfl rfl rfl ?_
          refine th_take 5 rfl (by kernel_rfl) (by kernel_rfl) (by kernel_rfl) ((by exact H.get0)) (fun _ hS => ov_fieldAddr rfl Try.underlying161 rfl (Try.sizeOf159 _) (by decide) rfl) rfl rfl rfl ?_
          refine th_take 6 rfl (by kernel_rfl) (by kernel_rfl) (by kernel_rfl) ((by exact H.get0)) (fun _ hS => ov_indexAddrA rfl Try.underlying159 (Try.sizeOf32 _) rfl rfl (by omega) (by omega)) rfl rfl rfl ?_
          refine th_take 8 rfl (by kernel_rfl) (by kernel_rfl) (by kernel_rfl) ((by exact H.get0)) (fun _ hS => ov_load_blkN hS rfl (Try.isAgg30 _) (Try.sizeOf30 _) rfl rfl rfl) rfl rfl rfl ?_
          refine th_take 11 rfl (by kernel_rfl) (by kernel_rfl) (by kernel_rfl) ((by exact H.get0)) (fun _ hS => ov_nilCheck rfl rfl) rfl rfl rfl ?_
          refine th_take 12 rfl (by kernel_rfl) (by kernel_rfl) (by kernel_rfl) ((by exact H.get0)) (fun _ hS => ov_fieldAddr rfl Try.underlying161 rfl (Try.sizeOf159 _) (by decide) rfl) rfl rfl rfl ?_
          refine th_two 7 9 (by kernel_rfl) ?_ ?_
          · skip
            refine tw_val (ov_load_blk (b := d) (e := 161) (by exact H.get1) rfl (Try.isAgg32 _) rfl (adr_slot d s.toNat) (cellsR_slot (k := s) (by omega) (by omega))) rfl ((by exact H.get0)) rfl rfl rfl ?_
            refine th_one 9 (by kernel_rfl) ?_
            refine tw_buildSlice H rfl rfl Try.underlying32 info30 rfl (fun ρ k => bs1 k rfl) (by decide) (by decide) (fill_Thing_1 _ _ _) rfl rfl rfl ?_
            intro b2 w5 hb2 H
            refine ⟨H.get1, ?_⟩
            refine th_one 10 (by kernel_rfl) ?_
            refine tw_append (SH.slotGet [_, _, _, _] H (by omega) (by omega)) (rd_blk [t] H.get0 rfl lenThing) rfl rfl rfl rfl Try.underlying32 info30 rfl rfl (show Try.t30.bytes = 24 from rfl) rfl (by decide) lenThing oneThing (by simp; omega) (by simp [maxLen]; omega) rfl rfl rfl ?_
            intro A1 c1 w6 U
            have H := SH.slotUpd (k := s) [_, _, _, _] (A1, c1, (gt Z s).2.2 ++ [t]) H (by omega) (by omega) U; clear U
            refine ⟨H.get1, ?_⟩
            refine th_take 13 rfl (by kernel_rfl) (by kernel_rfl) (by kernel_rfl) ((by exact H.get1)) (fun _ hS => ov_indexAddrA rfl Try.underlying159 (Try.sizeOf32 _) rfl rfl (by omega) (by omega)) rfl rfl rfl ?_
            refine th_one 14 (by kernel_rfl) ?_
            refine tw_store (b := d) H.get2 rfl rfl (Try.sizeOf32 _) rfl (adr_slot d s.toNat) rfl rfl (by rw [cellsR_len]; exact Nat.blt_eq.mpr (by omega)) rfl rfl ?_
            intro w7 U
            have H := H.upd2 (r := blk d 161 (cellsR (Z.set s.toNat (A1, c1, (gt Z s).2.2 ++ [t])) (usedN W : Nat) m)) (by rw [← hst]; exact U); clear U
            refine ⟨H.get1, ?_⟩
            refine th_done (by kernel_rfl) ?_
            refine hK11 _ _ (TrC.keep [29, 12, 9, 6, 5, 0, 1] ?_)
            show TrC _ _ _ _ [(29, _), (12, _), (9, _), (6, _), (5, _), (0, _), (1, _)] _ _
            refine tr_seq (fun K12 hK12 => ?_)
            -- region 9: slots.go:72
            have hlen2 : (Z.set s.toNat (A1, c1, (gt Z s).2.2 ++ [t])).length = 64 := by simpa using hlen
            generalize hZ2 : Z.set s.toNat (A1, c1, (gt Z s).2.2 ++ [t]) = Z2 at H hlen2
            refine tr_held (fun _ => True) mixed rfl H ?_
            intro w5 H
            refine th_take 0 rfl (by kernel_rfl) (by kernel_rfl) (by kernel_rfl) (trivial) (fun _ hS => ov_move rfl rfl) rfl rfl rfl ?_
            refine th_take 1 rfl (by kernel_rfl) (by kernel_rfl) (by kernel_rfl) (trivial) (fun _ hS => ov_nilCheck rfl rfl) rfl rfl rfl ?_
            refine th_take 2 rfl (by kernel_rfl) (by kernel_rfl) (by kernel_rfl) (trivial) (fun _ hS => ov_fieldAddr rfl Try.underlying161 rfl (Try.sizeOf28 _) (by decide) rfl) rfl rfl rfl ?_
            refine th_take 4 rfl (by kernel_rfl) (by kernel_rfl) (by kernel_rfl) (trivial) (fun _ hS => ov_move rfl rfl) rfl rfl rfl ?_
            refine th_take 5 rfl (by kernel_rfl) (by kernel_rfl) (by kernel_rfl) (trivial) (fun _ hS => ov_shl rfl rfl rfl (by omega) (shl_bit s (by omega) (by omega))) rfl rfl rfl ?_
            refine th_one 3 (by kernel_rfl) ?_
            refine tw_val (ov_load_blk H.get2 rfl (Try.isAgg28 _) rfl rfl (cellsR_used hlen2)) rfl (trivial) rfl rfl rfl ?_
            refine th_take 6 rfl (by kernel_rfl) (by kernel_rfl) (by kernel_rfl) (trivial) (fun _ hS => ov_or rfl rfl rfl (or_u64 (usedN W) (2 ^ s.toNat) hul (Nat.pow_lt_pow_right (by decide) (by omega)))) rfl rfl rfl ?_
            refine th_take 7 rfl (by kernel_rfl) (by kernel_rfl) (by kernel_rfl) (trivial) (fun _ hS => ov_nilCheck rfl rfl) rfl rfl rfl ?_
            refine th_take 8 rfl (by kernel_rfl) (by kernel_rfl) (by kernel_rfl) (trivial) (fun _ hS => ov_fieldAddr rfl Try.underlying161 rfl (Try.sizeOf28 _) (by decide) rfl) rfl rfl rfl ?_
            refine th_one 9 (by kernel_rfl) ?_
            refine tw_store (b := d) (j := 64) H.get2 rfl rfl (Try.sizeOf28 _) rfl rfl rfl rfl (by rw [cellsR_len]; exact Nat.blt_eq.mpr (by omega)) rfl rfl ?_
            intro w8 U
            have H := H.upd2 (r := blk d 161 (cellsR Z2 ((usedN W ||| 2 ^ s.toNat : Nat) : Int) m)) (cellsR_setUsed (Z := Z2) (u := (usedN W : Nat)) (m := m) ((usedN W ||| 2 ^ s.toNat : Nat) : Int) hlen2 ▸ U); clear U
            refine ⟨trivial, ?_⟩
            refine th_done (by kernel_rfl) ?_
            refine hK12 _ _ (TrC.keep [29, 12, 9, 6, 5, 0, 1] ?_)
            show TrC _ _ _ _ [(29, _), (12, _), (9, _), (6, _), (5, _), (0, _), (1, _)] _ _
            refine tr_seq (fun K13 hK13 => ?_)
            -- region 10: slots.go:73
            refine tr_held (fun w' => (blk d 161 (cellsR Z2 ((usedN W ||| 2 ^ s.toNat : Nat) : Int) m)).holds w' ∧ (blk b1 30 [.int .u64 t.id, .int .u64 t.gen, .int .i64 t.due]).holds w') mixed rfl H ?_
            intro w6 H
            refine th_take 0 rfl (by kernel_rfl) (by kernel_rfl) (by kernel_rfl) (⟨H.get2, H.get1⟩) (fun _ hS => ov_move rfl rfl) rfl rfl rfl ?_
            refine th_take 1 rfl (by kernel_rfl) (by kernel_rfl) (by kernel_rfl) (⟨H.get2, H.get1⟩) (fun _ hS => ov_nilCheck rfl rfl) rfl rfl rfl ?_
            refine th_take 2 rfl (by kernel_rfl) (by kernel_rfl) (by kernel_rfl) (⟨H.get2, H.get1⟩) (fun _ hS => ov_fieldAddr rfl Try.underlying161 rfl (Try.sizeOf158 _) (by decide) rfl) rfl rfl rfl ?_
            refine th_take 3 rfl (by kernel_rfl) (by kernel_rfl) (by kernel_rfl) (⟨H.get2, H.get1⟩) (fun _ hS => ov_load_blk hS.1 rfl (Try.isAgg158 _) rfl rfl (cellsR_map hlen2)) rfl rfl rfl ?_
            refine th_take 4 rfl (by kernel_rfl) (by kernel_rfl) (by kernel_rfl) (⟨H.get2, H.get1⟩) (fun _ hS => ov_fieldAddr rfl Try.underlying30 rfl (Try.sizeOf28 _) (by decide) rfl) rfl rfl rfl ?_
            refine th_take 5 rfl (by kernel_rfl) (by kernel_rfl) (by kernel_rfl) (⟨H.get2, H.get1⟩) (fun _ hS => ov_load_blk hS.2 rfl (Try.isAgg28 _) rfl rfl rfl) rfl rfl rfl ?_
            refine th_take 6 rfl (by kernel_rfl) (by kernel_rfl) (by kernel_rfl) (⟨H.get2, H.get1⟩) (fun _ hS => ov_move rfl rfl) rfl rfl rfl ?_
            refine th_one 7 (by kernel_rfl) ?_
            refine tw_mapNew H.get3 rfl hmf rfl Try.underlying158 Try.underlying28 rfl rfl rfl rfl rfl ?_
            intro w9 U; have H := H.upd3 U; clear U
            refine ⟨⟨H.get2, H.get1⟩, ?_⟩
            refine th_done (by kernel_rfl) ?_
            refine hK13 _ _ (TrC.keep [29, 12, 9, 6, 5, 0, 1] ?_)
            show TrC _ _ _ _ [(29, _), (12, _), (9, _), (6, _), (5, _), (0, _), (1, _)] _ _
            refine tr_seq (fun K14 hK14 => ?_)
            -- region 11: slots.go:74
            refine tr_region ?_
            refine tr_val (ov_assign rfl rfl) rfl rfl rfl ?_
            refine tr_nil (hK14 _ _ (TrC.keep [6, 29, 12, 9, 5, 0, 1] ?_))
            show TrC _ _ _ _ [(6, _), (29, _), (12, _), (9, _), (5, _), (0, _), (1, _)] _ _
            refine tr_ret (post_ret1 (.inr rfl) rfl rfl ?_)
            unfold putV; rw [if_neg (by omega), if_neg (by rw [hfn]; decide)]; exact ⟨rfl, _, ⟨m, Z2, _, _, _, by rw [← hZ2]; exact hR.put hfn (by omega) (by omega) A1 c1 ck, rfl⟩, SH.pack1 H.drop0.drop0⟩
          · skip
            refine tw_buildSlice H rfl rfl Try.underlying32 info30 rfl (fun ρ k => bs1 k rfl) (by decide) (by decide) (fill_Thing_1 _ _ _) rfl rfl rfl ?_
            intro b2 w5 hb2 H
            refine ⟨H.get1, ?_⟩
            refine th_one 7 (by kernel_rfl) ?_
            refine tw_val (ov_load_blk (b := d) (e := 161) (by exact H.get2) rfl (Try.isAgg32 _) rfl (adr_slot d s.toNat) (cellsR_slot (k := s) (by omega) (by omega))) rfl ((by exact H.get1)) rfl rfl rfl ?_
            refine th_one 10 (by kernel_rfl) ?_
            refine tw_append (SH.slotGet [_, _, _, _] H (by omega) (by omega)) (rd_blk [t] H.get0 rfl lenThing) rfl rfl rfl rfl Try.underlying32 info30 rfl rfl (show Try.t30.bytes = 24 from rfl) rfl (by decide) lenThing oneThing (by simp; omega) (by simp [maxLen]; omega) rfl rfl rfl ?_
            intro A1 c1 w6 U
            have H := SH.slotUpd (k := s) [_, _, _, _] (A1, c1, (gt Z s).2.2 ++ [t]) H (by omega) (by omega) U; clear U
            refine ⟨H.get1, ?_⟩
            refine th_take 13 rfl (by kernel_rfl) (by kernel_rfl) (by kernel_rfl) ((by exact H.get1)) (fun _ hS => ov_indexAddrA rfl Try.underlying159 (Try.sizeOf32 _) rfl rfl (by omega) (by omega)) rfl rfl rfl ?_
            refine th_one 14 (by kernel_rfl) ?_
            refine tw_store (b := d) H.get2 rfl rfl (Try.sizeOf32 _) rfl (adr_slot d s.toNat) rfl rfl (by rw [cellsR_len]; exact Nat.blt_eq.mpr (by omega)) rfl rfl ?_
            intro w7 U
            have H := H.upd2 (r := blk d 161 (cellsR (Z.set s.toNat (A1, c1, (gt Z s).2.2 ++ [t])) (usedN W : Nat) m)) (by rw [← hst]; exact U); clear U
            refine ⟨H.get1, ?_⟩
            refine th_done (by kernel_rfl) ?_
            refine hK11 _ _ (TrC.keep [29, 12, 9, 6, 5, 0, 1] ?_)
            show TrC _ _ _ _ [(29, _), (12, _), (9, _), (6, _), (5, _), (0, _), (1, _)] _ _
            refine tr_seq (fun K15 hK15 => ?_)
            -- region 9: slots.go:72
            have hlen2 : (Z.set s.toNat (A1, c1, (gt Z s).2.2 ++ [t])).length = 64 := by simpa using hlen
            generalize hZ2 : Z.set s.toNat (A1, c1, (gt Z s).2.2 ++ [t]) = Z2 at H hlen2
            refine tr_held (fun _ => True) mixed rfl H ?_
            intro w7 H
            refine th_take 0 rfl (by kernel_rfl) (by kernel_rfl) (by kernel_rfl) (trivial) (fun _ hS => ov_move rfl rfl) rfl rfl rfl ?_
            refine th_take 1 rfl (by kernel_rfl) (by kernel_rfl) (by kernel_rfl) (trivial) (fun _ hS => ov_nilCheck rfl rfl) rfl rfl rfl ?_
            refine th_take 2 rfl (by kernel_rfl) (by kernel_rfl) (by kernel_rfl) (trivial) (fun _ hS => ov_fieldAddr rfl Try.underlying161 rfl (Try.sizeOf28 _) (by decide) rfl) rfl rfl rfl ?_
            refine th_take 4 rfl (by kernel_rfl) (by kernel_rfl) (by kernel_rfl) (trivial) (fun _ hS => ov_move rfl rfl) rfl rfl rfl ?_
            refine th_take 5 rfl (by kernel_rfl) (by kernel_rfl) (by kernel_rfl) (trivial) (fun _ hS => ov_shl rfl rfl rfl (by omega) (shl_bit s (by omega) (by omega))) rfl rfl rfl ?_
            refine th_one 3 (by kernel_rfl) ?_
            refine tw_val (ov_load_blk H.get2 rfl (Try.isAgg28 _) rfl rfl (cellsR_used hlen2)) rfl (trivial) rfl rfl rfl ?_
            refine th_take 6 rfl (by kernel_rfl) (by kernel_rfl) (by kernel_rfl) (trivial) (fun _ hS => ov_or rfl rfl rfl (or_u64 (usedN W) (2 ^ s.toNat) hul (Nat.pow_lt_pow_right (by decide) (by omega)))) rfl rfl rfl ?_
            refine th_take 7 rfl (by kernel_rfl) (by kernel_rfl) (by kernel_rfl) (trivial) (fun _ hS => ov_nilCheck rfl rfl) rfl rfl rfl ?_
            refine th_take 8 rfl (by kernel_rfl) (by kernel_rfl) (by kernel_rfl) (trivial) (fun _ hS => ov_fieldAddr rfl Try.underlying161 rfl (Try.sizeOf28 _) (by decide) rfl) rfl rfl rfl ?_
            refine th_one 9 (by kernel_rfl) ?_
            refine tw_store (b := d) (j := 64) H.get2 rfl rfl (Try.sizeOf28 _) rfl rfl rfl rfl (by rw [cellsR_len]; exact Nat.blt_eq.mpr (by omega)) rfl rfl ?_
            intro w8 U
            have H := H.upd2 (r := blk d 161 (cellsR Z2 ((usedN W ||| 2 ^ s.toNat : Nat) : Int) m)) (cellsR_setUsed (Z := Z2) (u := (usedN W : Nat)) (m := m) ((usedN W ||| 2 ^ s.toNat : Nat) : Int) hlen2 ▸ U); clear U
            refine ⟨trivial, ?_⟩
            refine th_done (by kernel_rfl) ?_
            refine hK15 _ _ (TrC.keep [29, 12, 9, 6, 5, 0, 1] ?_)
            show TrC _ _ _ _ [(29, _), (12, _), (9, _), (6, _), (5, _), (0, _), (1, _)] _ _
            refine tr_seq (fun K16 hK16 => ?_)
            -- region 10: slots.go:73
            refine tr_held (fun w' => (blk d 161 (cellsR Z2 ((usedN W ||| 2 ^ s.toNat : Nat) : Int) m)).holds w' ∧ (blk b1 30 [.int .u64 t.id, .int .u64 t.gen, .int .i64 t.due]).holds w') mixed rfl H ?_
            intro w8 H
            refine th_take 0 rfl (by kernel_rfl) (by kernel_rfl) (by kernel_rfl) (⟨H.get2, H.get1⟩) (fun _ hS => ov_move rfl rfl) rfl rfl rfl ?_
            refine th_take 1 rfl (by kernel_rfl) (by kernel_rfl) (by kernel_rfl) (⟨H.get2, H.get1⟩) (fun _ hS => ov_nilCheck rfl rfl) rfl rfl rfl ?_
            refine th_take 2 rfl (by kernel_rfl) (by kernel_rfl) (by kernel_rfl) (⟨H.get2, H.get1⟩) (fun _ hS => ov_fieldAddr rfl Try.underlying161 rfl (Try.sizeOf158 _) (by decide) rfl) rfl rfl rfl ?_
            refine th_take 3 rfl (by kernel_rfl) (by kernel_rfl) (by kernel_rfl) (⟨H.get2, H.get1⟩) (fun _ hS => ov_load_blk hS.1 rfl (Try.isAgg158 _) rfl rfl (cellsR_map hlen2)) rfl rfl rfl ?_
            refine th_take 4 rfl (by kernel_rfl) (by kernel_rfl) (by kernel_rfl) (⟨H.get2, H.get1⟩) (fun _ hS => ov_fieldAddr rfl Try.underlying30 rfl (Try.sizeOf28 _) (by decide) rfl) rfl rfl rfl ?_
            refine th_take 5 rfl (by kernel_rfl) (by kernel_rfl) (by kernel_rfl) (⟨H.get2, H.get1⟩) (fun _ hS => ov_load_blk hS.2 rfl (Try.isAgg28 _) rfl rfl rfl) rfl rfl rfl ?_
            refine th_take 6 rfl (by kernel_rfl) (by kernel_rfl) (by kernel_rfl) (⟨H.get2, H.get1⟩) (fun _ hS => ov_move rfl rfl) rfl rfl rfl ?_
            refine th_one 7 (by kernel_rfl) ?_
            refine tw_mapNew H.get3 rfl hmf rfl Try.underlying158 Try.underlying28 rfl rfl rfl rfl rfl ?_
            intro w9 U; have H := H.upd3 U; clear U
            refine ⟨⟨H.get2, H.get1⟩, ?_⟩
            refine th_done (by kernel_rfl) ?_
            refine hK16 _ _ (TrC.keep [29, 12, 9, 6, 5, 0, 1] ?_)
            show TrC _ _ _ _ [(29, _), (12, _), (9, _), (6, _), (5, _), (0, _), (1, _)] _ _
            refine tr_seq (fun K17 hK17 => ?_)
            -- region 11: slots.go:74
            refine tr_region ?_
            refine tr_val (ov_assign rfl rfl) rfl rfl rfl ?_
            refine tr_nil (hK17 _ _ (TrC.keep [6, 29, 12, 9, 5, 0, 1] ?_))
            show TrC _ _ _ _ [(6, _), (29, _), (12, _), (9, _), (5, _), (0, _), (1, _)] _ _
            refine tr_ret (post_ret1 (.inr rfl) rfl rfl ?_)
            unfold putV; rw [if_neg (by omega), if_neg (by rw [hfn]; decide)]; exact ⟨rfl, _, ⟨m, Z2, _, _, _, by rw [← hZ2]; exact hR.put hfn (by omega) (by omega) A1 c1 ck, rfl⟩, SH.pack1 H.drop0.drop0⟩

/-! (*curfew/slots.Ring).Put -/
set_option maxRecDepth 20000 in
theorem ringPut_n (p : Option Addr) (w : World) (hp : NoRing w p) (s : Int) (t : Thing) : Does Try.prog 94 #[.pointer p, .int .i64 s, .agg #[.int .u64 t.id, .int .u64 t.gen, .int .i64 t.due]] w (fun v w' => v = .int .i64 1 ∧ SH w noBlocks [] w') := by
  refine does_enter3 Try.func94 rfl Try.ntmps94 rfl ?_
  have H := SH.start w noBlocks
  refine tr_seq (fun K1 hK1 => ?_)
  -- region 0: slots.go:61
  refine tr_region ?_
  refine tr_box H rfl rfl rfl rfl rfl rfl ?_
  intro b1 w1 hb1 H
  refine tr_val (ov_assign rfl rfl) rfl rfl rfl ?_
  refine tr_nil (hK1 _ _ (TrC.keep [6, 5, 0, 1] ?_))
  show TrC _ _ _ _ [(6, _), (5, _), (0, _), (1, _)] _ _
  refine tr_seq (fun K2 hK2 => ?_)
  refine tr_block ?_
  refine tr_seq (fun K3 hK3 => ?_)
  -- region 1: slots.go:63
  refine tr_region ?_
  refine tr_val (ov_move rfl rfl) rfl rfl rfl ?_
  refine tr_call (none_n p _ (hp.later H)) rfl rfl rfl Try.call101 rfl rfl rfl ?_
  rintro _ w2 ⟨rfl, HC⟩
  have H := H.call0n HC
  refine tr_val (ov_assign rfl rfl) rfl rfl rfl ?_
  refine tr_nil (hK3 _ _ (TrC.keep [9, 6, 5, 0, 1] ?_))
  show TrC _ _ _ _ [(9, _), (6, _), (5, _), (0, _), (1, _)] _ _
  refine tr_condb rfl (fun c9 => ?_) (fun c9 => ?_)
  · skip
    refine tr_seq (fun K4 hK4 => ?_)
    -- region 2: slots.go:64
    refine tr_region ?_
    refine tr_val (ov_assign rfl rfl) rfl rfl rfl ?_
    refine tr_nil (hK4 _ _ (TrC.keep [6, 9, 5, 0, 1] ?_))
    show TrC _ _ _ _ [(6, _), (9, _), (5, _), (0, _), (1, _)] _ _
    refine tr_ret (post_ret1 (.inr rfl) rfl rfl ?_)
    exact ⟨rfl, H.drop0⟩
  · cases c9

/-! (*curfew/slots.Ring).Drop -/
set_option maxRecDepth 20000 in
theorem ringDrop_some (d : Nat) (W : List RThing) (L : List Res) (w : World) (hL : RingL 161 30 d W L) (hO : (pack L).holds w) (id : Int) (r : RThing) (hf : findR id W = some r) (hW : W.length ≤ 65536) : Does Try.prog 63 #[.pointer (some ⟨d, 0, none⟩), .int .u64 id] w (fun v w' => v = .tuple #[.agg #[.int .u64 r.id, .int .u64 r.gen, .int .i64 r.due], .bool true] ∧ ∃ L', RingL 161 30 d (dropR id W) L' ∧ SH w (pack L).foot [pack L'] w') := by
  refine does_enter2 Try.func63 rfl Try.ntmps63 rfl ?_
  have H := SH.own1 hO
  have hfl := dropT_len (gt_findT hf)
  obtain ⟨hj0, hj1, hj2, hj3⟩ := idxT_some (gt_findT hf)
  have hle := slotL_le W r.slot
  refine tr_seq (fun K1 hK1 => ?_)
  -- region 0: slots.go:99
  refine tr_region ?_
  refine tr_alloc H rfl (Try.zeroValue30 _) rfl rfl rfl rfl ?_
  intro b1 w1 hb1 H
  refine tr_val (ov_assign rfl rfl) rfl rfl rfl ?_
  refine tr_nil (hK1 _ _ (TrC.keep [5, 4, 0, 1] ?_))
  show TrC _ _ _ _ [(5, _), (4, _), (0, _), (1, _)] _ _
  refine tr_seq (fun K2 hK2 => ?_)
  -- region 1: slots.go:100
  refine tr_region ?_
  refine tr_val (ov_move rfl rfl) rfl rfl rfl ?_
  refine tr_val (ov_move rfl rfl) rfl rfl rfl ?_
  refine tr_call (at_some d W L _ hL H.get1 id r hf hW) rfl rfl rfl Try.call103 rfl rfl rfl ?_
  rintro _ w2 ⟨rfl, HC⟩
  have H := H.call0n HC
  refine tr_val (ov_move rfl rfl) rfl rfl rfl ?_
  refine tr_val (ov_extract rfl rfl rfl) rfl rfl rfl ?_
  refine tr_val (ov_extract rfl rfl rfl) rfl rfl rfl ?_
  refine tr_val (ov_extract rfl rfl rfl) rfl rfl rfl ?_
  refine tr_val (ov_assign rfl rfl) rfl rfl rfl ?_
  refine tr_val (ov_assign rfl rfl) rfl rfl rfl ?_
  refine tr_val (ov_assign rfl rfl) rfl rfl rfl ?_
  refine tr_nil (hK2 _ _ (TrC.keep [5, 7, 6, 4, 0, 1] ?_))
  show TrC _ _ _ _ [(5, _), (7, _), (6, _), (4, _), (0, _), (1, _)] _ _
  refine tr_seq (fun K3 hK3 => ?_)
  refine tr_seq (fun K4 hK4 => ?_)
  -- region 2: slots.go:101
  refine tr_region ?_
  refine tr_val (ov_move rfl rfl) rfl rfl rfl ?_
  refine tr_val (ov_notb rfl rfl) rfl rfl rfl ?_
  refine tr_nil (hK4 _ _ (TrC.keep [18, 5, 7, 6, 4, 0, 1] ?_))
  show TrC _ _ _ _ [(18, _), (5, _), (7, _), (6, _), (4, _), (0, _), (1, _)] _ _
  refine tr_condb rfl (fun c18 => ?_) (fun c18 => ?_)
  · exact absurd c18 (by decide)
  · skip
    refine tr_skip (hK3 _ _ (TrC.keep [18, 5, 7, 6, 4, 0, 1] ?_))
    show TrC _ _ _ _ [(18, _), (5, _), (7, _), (6, _), (4, _), (0, _), (1, _)] _ _
    refine tr_seq (fun K5 hK5 => ?_)
    -- region 4: slots.go:104
    have hL0 := hL
    obtain ⟨m, Z, u, E, ck, hR, rfl⟩ := hL
    have hu := hR.used
    subst hu
    have hlen := hR.len
    have hwf := hR.wf
    have hul := usedN_lt hwf
    have hrs := hwf.slots r (findR_some hf).1
    have hzs := hR.slots r.slot hrs.1 hrs.2
    have hmf : mfind id E = some r.slot := by rw [hR.find, hf]; rfl
    have H := SH.unpackL [_] H
    change SH w (pack (ringL 161 30 d m Z (usedN W : Nat) E ck)).foot (blk b1 30 [.int .u64 0, .int .u64 0, .int .i64 0] :: blk d 161 (cellsR Z (usedN W : Nat) m) :: mapS m E ck :: Z.map (vecZ 30)) _ at H
    have hcap := vec_len (SH.slotGet (k := r.slot) [_, _, _] H (by omega) (by omega))
    rw [← hzs] at hj0 hj1 hj2
    have hzl : (slotL W r.slot).length = (gt Z r.slot).2.2.length := by rw [hzs]
    refine tr_region ?_
    refine tr_val (ov_move rfl rfl) rfl rfl rfl ?_
    refine tr_val (ov_move rfl rfl) rfl rfl rfl ?_
    refine tr_val (ov_nilCheck rfl rfl) rfl rfl rfl ?_
    refine tr_val (ov_fieldAddr rfl Try.underlying161 rfl (Try.sizeOf159 _) (by decide) rfl) rfl rfl rfl ?_
    refine tr_val (ov_indexAddrA rfl Try.underlying159 (Try.sizeOf32 _) rfl rfl (by omega) (by omega)) rfl rfl rfl ?_
    refine tr_val (ov_load_blk H.get1 rfl (Try.isAgg32 _) rfl (adr_slot d r.slot.toNat) (cellsR_slot (k := r.slot) (by omega) (by omega))) rfl rfl rfl ?_
    refine tr_val (ov_assign rfl rfl) rfl rfl rfl ?_
    refine tr_nil (hK5 _ _ (TrC.keep [8, 18, 5, 7, 6, 4, 0, 1] ?_))
    show TrC _ _ _ _ [(8, _), (18, _), (5, _), (7, _), (6, _), (4, _), (0, _), (1, _)] _ _
    refine tr_seq (fun K6 hK6 => ?_)
    -- region 5: slots.go:105
    rw [← hzs]
    refine tr_region ?_
    refine tr_val (ov_move rfl rfl) rfl rfl rfl ?_
    refine tr_val (ov_move rfl rfl) rfl rfl rfl ?_
    refine tr_val (ov_indexAddrR (vec_rd (SH.slotGet (k := r.slot) [_, _, _] H (by omega) (by omega)) lenThing (by decide)) rfl Try.underlying32 (Try.sizeOf30 _) rfl rfl (by omega) (by omega)) rfl rfl rfl ?_
    refine tr_val (ld_Thing (vec_rd (SH.slotGet (k := r.slot) [_, _, _] H (by omega) (by omega)) lenThing (by decide)) rfl (Try.isAgg30 _) (Try.sizeOf30 _) rfl (by omega) (by omega)) rfl rfl rfl ?_
    (refine tr_storeW H.get0 rfl (Try.sizeOf30 _) rfl rfl rfl rfl rfl rfl rfl rfl ?_; intro w3 U; have H := H.upd0 U; clear U)
    refine tr_nil (hK6 _ _ (TrC.keep [8, 18, 5, 7, 6, 4, 0, 1] ?_))
    show TrC _ _ _ _ [(8, _), (18, _), (5, _), (7, _), (6, _), (4, _), (0, _), (1, _)] _ _
    refine tr_seq (fun K7 hK7 => ?_)
    -- region 6: slots.go:106
    refine tr_region ?_
    refine tr_val (ov_move rfl rfl) rfl rfl rfl ?_
    refine tr_val (ov_len rfl rfl Try.underlying32 rfl) rfl rfl rfl ?_
    refine tr_val (ov_sub rfl rfl rfl (w64 (by omega))) rfl rfl rfl ?_
    refine tr_makeSlice (sz := 3) (⟨0, 0, 0⟩ : Thing) H rfl Try.underlying32 info30 rfl rfl rfl lenThing (by decide) rfl rfl (by omega) (by rw [show Try.t30.bytes = 24 from rfl]; omega) (by omega) rfl rfl rfl ?_
    intro A1 c1 w6 H
    rw [List.length_replicate]
    refine tr_val (ov_assign rfl rfl) rfl rfl rfl ?_
    refine tr_nil (hK7 _ _ (TrC.keep [9, 8, 18, 5, 7, 6, 4, 0, 1] ?_))
    show TrC _ _ _ _ [(9, _), (8, _), (18, _), (5, _), (7, _), (6, _), (4, _), (0, _), (1, _)] _ _
    refine tr_seq (fun K8 hK8 => ?_)
    -- region 7: slots.go:107
    refine tr_region ?_
    refine tr_val (ov_move rfl rfl) rfl rfl rfl ?_
    refine tr_val (ov_move rfl rfl) rfl rfl rfl ?_
    refine tr_val (ov_move rfl rfl) rfl rfl rfl ?_
    refine tr_val (ov_slice_hi rfl Try.underlying32 (Try.sizeOf30 _) rfl rfl (by omega) (by omega)) rfl rfl rfl ?_
    refine tr_copy (k := 0) (cd := c1) ((gt Z r.slot).2.2.take (idxT id (gt Z r.slot).2.2).toNat) H.get0 (rd_take (vec_rd (SH.slotGet (k := r.slot) [_, _, _, _] H (by omega) (by omega)) lenThing (by decide)) hcap _) rfl Try.underlying32 info30 rfl (by decide) lenThing oneThing (by rw [sub_zero_ (A := A1), Nat.sub_zero, List.length_replicate]; rfl) rfl (by rw [List.length_take, List.length_replicate]; omega) (by rw [List.length_take, List.length_replicate]; show _ = min _ _; omega) rfl rfl rfl ?_
    intro w7 U
    have H := H.upd0 U; clear U
    refine tr_nil (hK8 _ _ (TrC.keep [9, 8, 18, 5, 7, 6, 4, 0, 1] ?_))
    show TrC _ _ _ _ [(9, _), (8, _), (18, _), (5, _), (7, _), (6, _), (4, _), (0, _), (1, _)] _ _
    refine tr_seq (fun K9 hK9 => ?_)
    -- region 8: slots.go:108
    obtain ⟨L1, hL1⟩ : ∃ L1, List.take 0 (List.replicate (((gt Z r.slot).2.2.length : Int) - 1).toNat (⟨0, 0, 0⟩ : Thing)) ++ (gt Z r.slot).2.2.take (idxT id (gt Z r.slot).2.2).toNat ++ List.drop (0 + ((gt Z r.slot).2.2.take (idxT id (gt Z r.slot).2.2).toNat).length) (List.replicate (((gt Z r.slot).2.2.length : Int) - 1).toNat (⟨0, 0, 0⟩ : Thing)) = L1 := ⟨_, rfl⟩
    rw [hL1] at H
    obtain ⟨hl1, hL2⟩ := drop_copy hj0 hj1 hL1
    rw [← hl1]
    refine tr_held (fun _ => True) mixed rfl H ?_
    intro w4 H
    refine th_take 0 rfl (by kernel_rfl) (by kernel_rfl) (by kernel_rfl) (trivial) (fun _ hS => ov_move rfl rfl) rfl rfl rfl ?_
    refine th_take 1 rfl (by kernel_rfl) (by kernel_rfl) (by kernel_rfl) (trivial) (fun _ hS => ov_move rfl rfl) rfl rfl rfl ?_
    refine th_take 2 rfl (by kernel_rfl) (by kernel_rfl) (by kernel_rfl) (trivial) (fun _ hS => ov_slice_lo rfl Try.underlying32 (Try.sizeOf30 _) rfl rfl (by omega) (by omega)) rfl rfl rfl ?_
    refine th_take 3 rfl (by kernel_rfl) (by kernel_rfl) (by kernel_rfl) (trivial) (fun _ hS => ov_move rfl rfl) rfl rfl rfl ?_
    refine th_take 4 rfl (by kernel_rfl) (by kernel_rfl) (by kernel_rfl) (trivial) (fun _ hS => ov_move rfl rfl) rfl rfl rfl ?_
    refine th_take 5 rfl (by kernel_rfl) (by kernel_rfl) (by kernel_rfl) (trivial) (fun _ hS => ov_add rfl rfl rfl (w64 (by omega))) rfl rfl rfl ?_
    refine th_take 6 rfl (by kernel_rfl) (by kernel_rfl) (by kernel_rfl) (trivial) (fun _ hS => ov_slice_lo rfl Try.underlying32 (Try.sizeOf30 _) rfl rfl (by omega) (by omega)) rfl rfl rfl ?_
    refine th_one 7 (by kernel_rfl) ?_
    refine tw_copy (k := (idxT id (gt Z r.slot).2.2).toNat) ((gt Z r.slot).2.2.drop (idxT id (gt Z r.slot).2.2 + 1).toNat) H.get0 (rd_drop (vec_rd (SH.slotGet (k := r.slot) [_, _, _, _] H (by omega) (by omega)) lenThing (by decide)) hcap _) rfl rfl Try.underlying32 info30 rfl (by decide) lenThing oneThing rfl rfl (by rw [List.length_drop]; omega) (by rw [List.length_drop]; show _ = min _ _; omega) rfl rfl rfl ?_
    intro w8 U
    have H := H.upd0 U; clear U
    refine ⟨trivial, ?_⟩
    refine th_done (by kernel_rfl) ?_
    refine hK9 _ _ (TrC.keep [9, 8, 18, 5, 7, 6, 4, 0, 1] ?_)
    show TrC _ _ _ _ [(9, _), (8, _), (18, _), (5, _), (7, _), (6, _), (4, _), (0, _), (1, _)] _ _
    refine tr_seq (fun K10 hK10 => ?_)
    -- region 9: slots.go:109
    rw [hzs, ← hj3] at hL2
    rw [hzs, hL2] at H
    have hl3 : L1.length = (dropT id (slotL W r.slot)).length := by omega
    rw [hl3]
    have hst : ∀ z : Slot, (cellsR Z (usedN W : Nat) m).set r.slot.toNat (cellZ z) = cellsR (Z.set r.slot.toNat z) (usedN W : Nat) m := fun z => cellsR_setSlot z (by omega) (by omega)
    have H := SH.slotNew (k := r.slot) [_, _, _] (A1, c1, (dropT id (slotL W r.slot))) H (by omega) (by omega)
    refine tr_region ?_
    refine tr_val (ov_move rfl rfl) rfl rfl rfl ?_
    refine tr_val (ov_move rfl rfl) rfl rfl rfl ?_
    refine tr_val (ov_move rfl rfl) rfl rfl rfl ?_
    refine tr_val (ov_nilCheck rfl rfl) rfl rfl rfl ?_
    refine tr_val (ov_fieldAddr rfl Try.underlying161 rfl (Try.sizeOf159 _) (by decide) rfl) rfl rfl rfl ?_
    refine tr_val (ov_indexAddrA rfl Try.underlying159 (Try.sizeOf32 _) rfl rfl (by omega) (by omega)) rfl rfl rfl ?_
    refine tr_store (b := d) H.get1 rfl (Try.sizeOf32 _) rfl (adr_slot d r.slot.toNat) rfl rfl (by rw [cellsR_len]; exact Nat.blt_eq.mpr (by omega)) rfl rfl ?_
    intro w9 U
    have H := H.upd1 (r := blk d 161 (cellsR (Z.set r.slot.toNat (A1, c1, (dropT id (slotL W r.slot)))) (usedN W : Nat) m)) (by rw [← hst]; exact U); clear U
    have hlen2 : (Z.set r.slot.toNat (A1, c1, (dropT id (slotL W r.slot)))).length = 64 := by simpa using hlen
    generalize hZ2 : (Z.set r.slot.toNat (A1, c1, (dropT id (slotL W r.slot)))) = Z2 at H hlen2
    refine tr_nil (hK10 _ _ (TrC.keep [9, 8, 18, 5, 7, 6, 4, 0, 1] ?_))
    show TrC _ _ _ _ [(9, _), (8, _), (18, _), (5, _), (7, _), (6, _), (4, _), (0, _), (1, _)] _ _
    refine tr_seq (fun K11 hK11 => ?_)
    refine tr_seq (fun K12 hK12 => ?_)
    -- region 10: slots.go:110
    refine tr_region ?_
    refine tr_val (ov_move rfl rfl) rfl rfl rfl ?_
    refine tr_val (ov_len rfl rfl Try.underlying32 rfl) rfl rfl rfl ?_
    refine tr_val (ov_eql rfl rfl rfl) rfl rfl rfl ?_
    refine tr_nil (hK12 _ _ (TrC.keep [55, 9, 8, 18, 5, 7, 6, 4, 0, 1] ?_))
    show TrC _ _ _ _ [(55, _), (9, _), (8, _), (18, _), (5, _), (7, _), (6, _), (4, _), (0, _), (1, _)] _ _
    refine tr_cond rfl (fun c55 => ?_) (fun c55 => ?_)
    · have he : (dropT id (slotL W r.slot)) = [] := List.eq_nil_of_length_eq_zero (by omega)
      -- region 11: slots.go:111
      refine tr_held (fun _ => True) mixed rfl H ?_
      intro w5 H
      refine th_take 0 rfl (by kernel_rfl) (by kernel_rfl) (by kernel_rfl) (trivial) (fun _ hS => ov_move rfl rfl) rfl rfl rfl ?_
      refine th_take 1 rfl (by kernel_rfl) (by kernel_rfl) (by kernel_rfl) (trivial) (fun _ hS => ov_nilCheck rfl rfl) rfl rfl rfl ?_
      refine th_take 2 rfl (by kernel_rfl) (by kernel_rfl) (by kernel_rfl) (trivial) (fun _ hS => ov_fieldAddr rfl Try.underlying161 rfl (Try.sizeOf28 _) (by decide) rfl) rfl rfl rfl ?_
      refine th_take 4 rfl (by kernel_rfl) (by kernel_rfl) (by kernel_rfl) (trivial) (fun _ hS => ov_move rfl rfl) rfl rfl rfl ?_
      refine th_take 5 rfl (by kernel_rfl) (by kernel_rfl) (by kernel_rfl) (trivial) (fun _ hS => ov_shl rfl rfl rfl (by omega) (shl_bit r.slot (by omega) (by omega))) rfl rfl rfl ?_
      refine th_one 3 (by kernel_rfl) ?_
      refine tw_val (ov_load_blk H.get1 rfl (Try.isAgg28 _) rfl rfl (cellsR_used hlen2)) rfl (trivial) rfl rfl rfl ?_
      refine th_take 6 rfl (by kernel_rfl) (by kernel_rfl) (by kernel_rfl) (trivial) (fun _ hS => ov_andNot rfl rfl rfl (andNot_u64 (usedN W) r.slot.toNat hul (by omega))) rfl rfl rfl ?_
      refine th_take 7 rfl (by kernel_rfl) (by kernel_rfl) (by kernel_rfl) (trivial) (fun _ hS => ov_nilCheck rfl rfl) rfl rfl rfl ?_
      refine th_take 8 rfl (by kernel_rfl) (by kernel_rfl) (by kernel_rfl) (trivial) (fun _ hS => ov_fieldAddr rfl Try.underlying161 rfl (Try.sizeOf28 _) (by decide) rfl) rfl rfl rfl ?_
      refine th_one 9 (by kernel_rfl) ?_
      refine tw_store (b := d) (j := 64) H.get1 rfl rfl (Try.sizeOf28 _) rfl rfl rfl rfl (by rw [cellsR_len]; exact Nat.blt_eq.mpr (by omega)) rfl rfl ?_
      intro w108 U
      have H := H.upd1 (r := blk d 161 (cellsR Z2 ((clrN (usedN W) r.slot.toNat : Nat) : Int) m)) (cellsR_setUsed (Z := Z2) (u := (usedN W : Nat)) (m := m) ((clrN (usedN W) r.slot.toNat : Nat) : Int) hlen2 ▸ U); clear U
      refine ⟨trivial, ?_⟩
      refine th_done (by kernel_rfl) ?_
      refine hK11 _ _ (TrC.keep [55, 9, 8, 18, 5, 7, 6, 4, 0, 1] ?_)
      show TrC _ _ _ _ [(55, _), (9, _), (8, _), (18, _), (5, _), (7, _), (6, _), (4, _), (0, _), (1, _)] _ _
      refine tr_seq (fun K13 hK13 => ?_)
      -- region 12: slots.go:113
      refine tr_region ?_
      refine tr_val (ov_move rfl rfl) rfl rfl rfl ?_
      refine tr_val (ov_nilCheck rfl rfl) rfl rfl rfl ?_
      refine tr_val (ov_fieldAddr rfl Try.underlying161 rfl (Try.sizeOf158 _) (by decide) rfl) rfl rfl rfl ?_
      refine tr_val (ov_load_blk H.get1 rfl (Try.isAgg158 _) rfl rfl (cellsR_map hlen2)) rfl rfl rfl ?_
      refine tr_val (ov_move rfl rfl) rfl rfl rfl ?_
      refine tr_mapDel H.get2 rfl rfl Try.underlying158 Try.underlying28 rfl rfl rfl rfl ?_
      intro w11 U; have H := H.upd2 U; clear U
      refine tr_nil (hK13 _ _ (TrC.keep [55, 9, 8, 18, 5, 7, 6, 4, 0, 1] ?_))
      show TrC _ _ _ _ [(55, _), (9, _), (8, _), (18, _), (5, _), (7, _), (6, _), (4, _), (0, _), (1, _)] _ _
      refine tr_seq (fun K14 hK14 => ?_)
      -- region 13: slots.go:114
      refine tr_region ?_
      refine tr_val (ov_load_blkN H.get0 rfl (Try.isAgg30 _) (Try.sizeOf30 _) rfl rfl rfl) rfl rfl rfl ?_
      (refine tr_storeW H.get0 rfl (Try.sizeOf30 _) rfl rfl rfl rfl rfl rfl rfl rfl ?_; intro w6 U; have H := H.upd0 U; clear U)
      refine tr_val (ov_assign rfl rfl) rfl rfl rfl ?_
      refine tr_nil (hK14 _ _ (TrC.keep [5, 55, 9, 8, 18, 7, 6, 4, 0, 1] ?_))
      show TrC _ _ _ _ [(5, _), (55, _), (9, _), (8, _), (18, _), (7, _), (6, _), (4, _), (0, _), (1, _)] _ _
      refine tr_ret (post_ret2 (.inr rfl) rfl (by exact ⟨_, rfl, res_blkN H.get0 (Try.isAgg30 _) (Try.sizeOf30 _) rfl rfl⟩) rfl ?_)
      rw [hzs] at hj2
      rw [hj2]
      exact ⟨rfl, _, ⟨m, Z2, _, _, _, by rw [← hZ2]; have := hR.drop hf A1 c1; rw [if_pos he] at this; exact this, rfl⟩, SH.pack1 H.drop0⟩
    · have he : (dropT id (slotL W r.slot)) ≠ [] := by intro h; rw [h] at c55; exact c55 rfl
      refine tr_skip (hK11 _ _ (TrC.keep [55, 9, 8, 18, 5, 7, 6, 4, 0, 1] ?_))
      show TrC _ _ _ _ [(55, _), (9, _), (8, _), (18, _), (5, _), (7, _), (6, _), (4, _), (0, _), (1, _)] _ _
      refine tr_seq (fun K15 hK15 => ?_)
      -- region 12: slots.go:113
      refine tr_region ?_
      refine tr_val (ov_move rfl rfl) rfl rfl rfl ?_
      refine tr_val (ov_nilCheck rfl rfl) rfl rfl rfl ?_
      refine tr_val (ov_fieldAddr rfl Try.underlying161 rfl (Try.sizeOf158 _) (by decide) rfl) rfl rfl rfl ?_
      refine tr_val (ov_load_blk H.get1 rfl (Try.isAgg158 _) rfl rfl (cellsR_map hlen2)) rfl rfl rfl ?_
      refine tr_val (ov_move rfl rfl) rfl rfl rfl ?_
      refine tr_mapDel H.get2 rfl rfl Try.underlying158 Try.underlying28 rfl rfl rfl rfl ?_
      intro w11 U; have H := H.upd2 U; clear U
      refine tr_nil (hK15 _ _ (TrC.keep [55, 9, 8, 18, 5, 7, 6, 4, 0, 1] ?_))
      show TrC _ _ _ _ [(55, _), (9, _), (8, _), (18, _), (5, _), (7, _), (6, _), (4, _), (0, _), (1, _)] _ _
      refine tr_seq (fun K16 hK16 => ?_)
      -- region 13: slots.go:114
      refine tr_region ?_
      refine tr_val (ov_load_blkN H.get0 rfl (Try.isAgg30 _) (Try.sizeOf30 _) rfl rfl rfl) rfl rfl rfl ?_
      (refine tr_storeW H.get0 rfl (Try.sizeOf30 _) rfl rfl rfl rfl rfl rfl rfl rfl ?_; intro w7 U; have H := H.upd0 U; clear U)
      refine tr_val (ov_assign rfl rfl) rfl rfl rfl ?_
      refine tr_nil (hK16 _ _ (TrC.keep [5, 55, 9, 8, 18, 7, 6, 4, 0, 1] ?_))
      show TrC _ _ _ _ [(5, _), (55, _), (9, _), (8, _), (18, _), (7, _), (6, _), (4, _), (0, _), (1, _)] _ _
      refine tr_ret (post_ret2 (.inr rfl) rfl (by exact ⟨_, rfl, res_blkN H.get0 (Try.isAgg30 _) (Try.sizeOf30 _) rfl rfl⟩) rfl ?_)
      rw [hzs] at hj2
      rw [hj2]
      exact ⟨rfl, _, ⟨m, Z2, _, _, _, by rw [← hZ2]; have := hR.drop hf A1 c1; rw [if_neg he] at this; exact this, rfl⟩, SH.pack1 H.drop0⟩

/-! (*curfew/slots.Ring).Drop -/
set_option maxRecDepth 20000 in
theorem ringDrop_none (d : Nat) (W : List RThing) (L : List Res) (w : World) (hL : RingL 161 30 d W L) (hO : (pack L).holds w) (id : Int) (hf : findR id W = none) : Does Try.prog 63 #[.pointer (some ⟨d, 0, none⟩), .int .u64 id] w (fun v w' => v = .tuple #[.agg #[.int .u64 0, .int .u64 0, .int .i64 0], .bool false] ∧ SH w noBlocks [] w') := by
  refine does_enter2 Try.func63 rfl Try.ntmps63 rfl ?_
  have H := SH.start w noBlocks
  refine tr_seq (fun K1 hK1 => ?_)
  -- region 0: slots.go:99
  refine tr_region ?_
  refine tr_alloc H rfl (Try.zeroValue30 _) rfl rfl rfl rfl ?_
  intro b1 w1 hb1 H
  refine tr_val (ov_assign rfl rfl) rfl rfl rfl ?_
  refine tr_nil (hK1 _ _ (TrC.keep [5, 4, 0, 1] ?_))
  show TrC _ _ _ _ [(5, _), (4, _), (0, _), (1, _)] _ _
  refine tr_seq (fun K2 hK2 => ?_)
  -- region 1: slots.go:100
  refine tr_region ?_
  refine tr_val (ov_move rfl rfl) rfl rfl rfl ?_
  refine tr_val (ov_move rfl rfl) rfl rfl rfl ?_
  refine tr_call (at_none d W L _ hL (H.res0 hO) id hf) rfl rfl rfl Try.call103 rfl rfl rfl ?_
  rintro _ w2 ⟨rfl, HC⟩
  have H := H.call0n HC
  refine tr_val (ov_move rfl rfl) rfl rfl rfl ?_
  refine tr_val (ov_extract rfl rfl rfl) rfl rfl rfl ?_
  refine tr_val (ov_extract rfl rfl rfl) rfl rfl rfl ?_
  refine tr_val (ov_extract rfl rfl rfl) rfl rfl rfl ?_
  refine tr_val (ov_assign rfl rfl) rfl rfl rfl ?_
  refine tr_val (ov_assign rfl rfl) rfl rfl rfl ?_
  refine tr_val (ov_assign rfl rfl) rfl rfl rfl ?_
  refine tr_nil (hK2 _ _ (TrC.keep [5, 7, 6, 4, 0, 1] ?_))
  show TrC _ _ _ _ [(5, _), (7, _), (6, _), (4, _), (0, _), (1, _)] _ _
  refine tr_seq (fun K3 hK3 => ?_)
  refine tr_seq (fun K4 hK4 => ?_)
  -- region 2: slots.go:101
  refine tr_region ?_
  refine tr_val (ov_move rfl rfl) rfl rfl rfl ?_
  refine tr_val (ov_notb rfl rfl) rfl rfl rfl ?_
  refine tr_nil (hK4 _ _ (TrC.keep [18, 5, 7, 6, 4, 0, 1] ?_))
  show TrC _ _ _ _ [(18, _), (5, _), (7, _), (6, _), (4, _), (0, _), (1, _)] _ _
  refine tr_condb rfl (fun c18 => ?_) (fun c18 => ?_)
  · skip
    refine tr_seq (fun K5 hK5 => ?_)
    -- region 3: slots.go:102
    refine tr_region ?_
    refine tr_val (ov_load_blkN H.get0 rfl (Try.isAgg30 _) (Try.sizeOf30 _) rfl rfl rfl) rfl rfl rfl ?_
    (refine tr_storeW H.get0 rfl (Try.sizeOf30 _) rfl rfl rfl rfl rfl rfl rfl rfl ?_; intro w3 U; have H := H.upd0 U; clear U)
    refine tr_val (ov_assign rfl rfl) rfl rfl rfl ?_
    refine tr_nil (hK5 _ _ (TrC.keep [5, 18, 7, 6, 4, 0, 1] ?_))
    show TrC _ _ _ _ [(5, _), (18, _), (7, _), (6, _), (4, _), (0, _), (1, _)] _ _
    refine tr_ret (post_ret2 (.inr rfl) rfl (by exact ⟨_, rfl, res_blkN H.get0 (Try.isAgg30 _) (Try.sizeOf30 _) rfl rfl⟩) rfl ?_)
    exact ⟨rfl, H.drop0⟩
  · exact absurd c18 (by decide)

/-! (*curfew/slots.Ring).Drop -/
set_option maxRecDepth 20000 in
theorem ringDrop_n (p : Option Addr) (w : World) (hp : NoRing w p) (id : Int) : Does Try.prog 63 #[.pointer p, .int .u64 id] w (fun v w' => v = .tuple #[.agg #[.int .u64 0, .int .u64 0, .int .i64 0], .bool false] ∧ SH w noBlocks [] w') := by
  refine does_enter2 Try.func63 rfl Try.ntmps63 rfl ?_
  have H := SH.start w noBlocks
  refine tr_seq (fun K1 hK1 => ?_)
  -- region 0: slots.go:99
  refine tr_region ?_
  refine tr_alloc H rfl (Try.zeroValue30 _) rfl rfl rfl rfl ?_
  intro b1 w1 hb1 H
  refine tr_val (ov_assign rfl rfl) rfl rfl rfl ?_
  refine tr_nil (hK1 _ _ (TrC.keep [5, 4, 0, 1] ?_))
  show TrC _ _ _ _ [(5, _), (4, _), (0, _), (1, _)] _ _
  refine tr_seq (fun K2 hK2 => ?_)
  -- region 1: slots.go:100
  refine tr_region ?_
  refine tr_val (ov_move rfl rfl) rfl rfl rfl ?_
  refine tr_val (ov_move rfl rfl) rfl rfl rfl ?_
  refine tr_call (at_n p _ (hp.later H) id) rfl rfl rfl Try.call103 rfl rfl rfl ?_
  rintro _ w2 ⟨rfl, HC⟩
  have H := H.call0n HC
  refine tr_val (ov_move rfl rfl) rfl rfl rfl ?_
  refine tr_val (ov_extract rfl rfl rfl) rfl rfl rfl ?_
  refine tr_val (ov_extract rfl rfl rfl) rfl rfl rfl ?_
  refine tr_val (ov_extract rfl rfl rfl) rfl rfl rfl ?_
  refine tr_val (ov_assign rfl rfl) rfl rfl rfl ?_
  refine tr_val (ov_assign rfl rfl) rfl rfl rfl ?_
  refine tr_val (ov_assign rfl rfl) rfl rfl rfl ?_
  refine tr_nil (hK2 _ _ (TrC.keep [5, 7, 6, 4, 0, 1] ?_))
  show TrC _ _ _ _ [(5, _), (7, _), (6, _), (4, _), (0, _), (1, _)] _ _
  refine tr_seq (fun K3 hK3 => ?_)
  refine tr_seq (fun K4 hK4 => ?_)
  -- region 2: slots.go:101
  refine tr_region ?_
  refine tr_val (ov_move rfl rfl) rfl rfl rfl ?_
  refine tr_val (ov_notb rfl rfl) rfl rfl rfl ?_
  refine tr_nil (hK4 _ _ (TrC.keep [18, 5, 7, 6, 4, 0, 1] ?_))
  show TrC _ _ _ _ [(18, _), (5, _), (7, _), (6, _), (4, _), (0, _), (1, _)] _ _
  refine tr_condb rfl (fun c18 => ?_) (fun c18 => ?_)
  · skip
    refine tr_seq (fun K5 hK5 => ?_)
    -- region 3: slots.go:102
    refine tr_region ?_
    refine tr_val (ov_load_blkN H.get0 rfl (Try.isAgg30 _) (Try.sizeOf30 _) rfl rfl rfl) rfl rfl rfl ?_
    (refine tr_storeW H.get0 rfl (Try.sizeOf30 _) rfl rfl rfl rfl rfl rfl rfl rfl ?_; intro w3 U; have H := H.upd0 U; clear U)
    refine tr_val (ov_assign rfl rfl) rfl rfl rfl ?_
    refine tr_nil (hK5 _ _ (TrC.keep [5, 18, 7, 6, 4, 0, 1] ?_))
    show TrC _ _ _ _ [(5, _), (18, _), (7, _), (6, _), (4, _), (0, _), (1, _)] _ _
    refine tr_ret (post_ret2 (.inr rfl) rfl (by exact ⟨_, rfl, res_blkN H.get0 (Try.isAgg30 _) (Try.sizeOf30 _) rfl rfl⟩) rfl ?_)
    exact ⟨rfl, H.drop0⟩
  · exact absurd c18 (by decide)

/-! (*curfew/slots.Ring).Look -/
set_option maxRecDepth 20000 in
theorem ringLook_c (d : Nat) (W : List RThing) (L : List Res) (w : World) (hL : RingL 161 30 d W L) (hO : (pack L).holds w) (s : Int) (hW : W.length ≤ 65536) : Does Try.prog 61 #[.pointer (some ⟨d, 0, none⟩), .int .i64 s] w (fun v w' => ∃ A' c', v = .slice A' ((sortT (slotL W s))).length c' ∧ SH w noBlocks [vec A' c' 30 3 encThing (sortT (slotL W s))] w') := by
  have hL0 := hL
  obtain ⟨m, Z, u, E, ck, hR, rfl⟩ := hL
  have hlen := hR.len
  have hwf := hR.wf
  have hb : (blk d 161 (cellsR Z u m)).holds w := pack_hold hO (by simp [ringL])
  have hm : (mapS m E ck).holds w := pack_hold hO (by simp [ringL])
  have hsl : ∀ k : Int, 0 ≤ k → k ≤ 63 → (vecZ 30 (gt Z k)).holds w := fun k h0 h1 => pack_hold hO (by simp only [ringL, List.mem_cons]; exact .inr (.inr (List.mem_map.mpr ⟨_, gt_mem h0 (by omega), rfl⟩)))
  have hle := slotL_le W s
  refine does_enter2 Try.func61 rfl Try.ntmps61 rfl ?_
  have H := SH.start w noBlocks
  refine tr_seq (fun K1 hK1 => ?_)
  -- region 0: slots.go:118
  refine tr_region ?_
  refine tr_val (ov_assign rfl rfl) rfl rfl rfl ?_
  refine tr_nil (hK1 _ _ (TrC.keep [4, 0, 1] ?_))
  show TrC _ _ _ _ [(4, _), (0, _), (1, _)] _ _
  refine tr_seq (fun K2 hK2 => ?_)
  refine tr_seq (fun K3 hK3 => ?_)
  -- region 1: slots.go:119
  refine tr_region ?_
  refine tr_val (ov_move rfl rfl) rfl rfl rfl ?_
  refine tr_call (none_ring d W _ _ ⟨m, Z, u, E, ck, hR, rfl⟩ (H.res0 hO)) rfl rfl rfl Try.call101 rfl rfl rfl ?_
  rintro _ w1 ⟨rfl, HC⟩
  have H := H.call0n HC
  refine tr_val (ov_move rfl rfl) rfl rfl rfl ?_
  refine tr_splitb (t := 8) rfl (fun s8 => ?_) (fun s8 => ?_)
  · cases s8
  · skip
    refine tr_val (ov_move rfl rfl) rfl rfl rfl ?_
    refine tr_val (ov_lss rfl rfl rfl) rfl rfl rfl ?_
    refine tr_val (ov_pick_f (va := undef) rfl rfl rfl rfl) rfl rfl rfl ?_
    refine tr_val (ov_move rfl rfl) rfl rfl rfl ?_
    refine tr_split (t := 12) rfl (fun s12 => ?_) (fun s12 => ?_)
    · skip
      refine tr_pass rfl rfl rfl ?_
      refine tr_pass rfl rfl rfl ?_
      refine tr_val (ov_pick (vb := undef) rfl rfl rfl rfl) rfl rfl rfl ?_
      refine tr_nil (hK3 _ _ (TrC.keep [15, 4, 0, 1] ?_))
      show TrC _ _ _ _ [(15, _), (4, _), (0, _), (1, _)] _ _
      refine tr_cond_t rfl rfl ?_
      refine tr_seq (fun K4 hK4 => ?_)
      -- region 2: slots.go:120
      refine tr_region ?_
      refine tr_val (ov_assign rfl rfl) rfl rfl rfl ?_
      refine tr_nil (hK4 _ _ (TrC.keep [4, 15, 0, 1] ?_))
      show TrC _ _ _ _ [(4, _), (15, _), (0, _), (1, _)] _ _
      refine tr_ret (post_ret1 (.inr rfl) rfl rfl ?_)
      have e := slotL_out (k := s) hwf (by omega)
      rw [e]
      exact ⟨none, 0, rfl, H.addNil 30 3 encThing⟩
    · skip
      refine tr_val (ov_move rfl rfl) rfl rfl rfl ?_
      refine tr_val (ov_geq rfl rfl rfl) rfl rfl rfl ?_
      refine tr_val (ov_pick_f (va := undef) rfl rfl rfl rfl) rfl rfl rfl ?_
      refine tr_nil (hK3 _ _ (TrC.keep [15, 4, 0, 1] ?_))
      show TrC _ _ _ _ [(15, _), (4, _), (0, _), (1, _)] _ _
      refine tr_cond rfl (fun c15 => ?_) (fun c15 => ?_)
      · skip
        refine tr_seq (fun K5 hK5 => ?_)
        -- region 2: slots.go:120
        refine tr_region ?_
        refine tr_val (ov_assign rfl rfl) rfl rfl rfl ?_
        refine tr_nil (hK5 _ _ (TrC.keep [4, 15, 0, 1] ?_))
        show TrC _ _ _ _ [(4, _), (15, _), (0, _), (1, _)] _ _
        refine tr_ret (post_ret1 (.inr rfl) rfl rfl ?_)
        have e := slotL_out (k := s) hwf (by omega)
        rw [e]
        exact ⟨none, 0, rfl, H.addNil 30 3 encThing⟩
      · skip
        refine tr_skip (hK2 _ _ (TrC.keep [15, 4, 0, 1] ?_))
        show TrC _ _ _ _ [(15, _), (4, _), (0, _), (1, _)] _ _
        refine tr_seq (fun K6 hK6 => ?_)
        -- region 3: slots.go:122
        have hzs := hR.slots s (by omega) (by omega)
        have hzl : (gt Z s).2.2.length = (slotL W s).length := by rw [hzs]
        refine tr_region ?_
        refine tr_val (ov_move rfl rfl) rfl rfl rfl ?_
        refine tr_val (ov_move rfl rfl) rfl rfl rfl ?_
        refine tr_val (ov_nilCheck rfl rfl) rfl rfl rfl ?_
        refine tr_val (ov_fieldAddr rfl Try.underlying161 rfl (Try.sizeOf159 _) (by decide) rfl) rfl rfl rfl ?_
        refine tr_val (ov_indexAddrA rfl Try.underlying159 (Try.sizeOf32 _) rfl rfl (by omega) (by omega)) rfl rfl rfl ?_
        refine tr_val (ov_load_blk (H.res0 hb) rfl (Try.isAgg32 _) rfl (adr_slot d (s).toNat) (cellsR_slot (k := s) (by omega) (by omega))) rfl rfl rfl ?_
        refine tr_call (CloneT_c (gt Z s).1 (gt Z s).2.1 (gt Z s).2.2 _ (vec_rd (H.res0 (hsl s (by omega) (by omega))) lenThing (by decide)) (by omega)) rfl rfl rfl Try.call102 rfl rfl rfl ?_
        rintro _ w2 ⟨A1, c1, rfl, HC⟩
        have H := H.call0r HC
        rw [hzs] at H
        rw [hzs]
        refine tr_val (ov_assign rfl rfl) rfl rfl rfl ?_
        refine tr_nil (hK6 _ _ (TrC.keep [5, 15, 4, 0, 1] ?_))
        show TrC _ _ _ _ [(5, _), (15, _), (4, _), (0, _), (1, _)] _ _
        refine tr_seq (fun K7 hK7 => ?_)
        -- region 4: slots.go:123
        refine tr_region ?_
        refine tr_val (ov_move rfl rfl) rfl rfl rfl ?_
        refine tr_call (Sort_c A1 c1 (slotL W s) _ H.get0 (by omega)) rfl rfl rfl Try.call17 rfl rfl rfl ?_
        rintro _ w3 HC
        have H := H.call1 HC
        refine tr_nil (hK7 _ _ (TrC.keep [5, 15, 4, 0, 1] ?_))
        show TrC _ _ _ _ [(5, _), (15, _), (4, _), (0, _), (1, _)] _ _
        refine tr_seq (fun K8 hK8 => ?_)
        -- region 5: slots.go:124
        refine tr_region ?_
        refine tr_val (ov_move rfl rfl) rfl rfl rfl ?_
        refine tr_val (ov_assign rfl rfl) rfl rfl rfl ?_
        refine tr_nil (hK8 _ _ (TrC.keep [4, 5, 15, 0, 1] ?_))
        show TrC _ _ _ _ [(4, _), (5, _), (15, _), (0, _), (1, _)] _ _
        refine tr_ret (post_ret1 (.inr rfl) rfl rfl ?_)
        rw [← sortT_len (slotL W s)]; exact ⟨A1, c1, rfl, H⟩

/-! (*curfew/slots.Ring).Look -/
set_option maxRecDepth 20000 in
theorem ringLook_n (p : Option Addr) (w : World) (hp : NoRing w p) (s : Int) : Does Try.prog 61 #[.pointer p, .int .i64 s] w (fun v w' => v = .slice none 0 0 ∧ SH w noBlocks [] w') := by
  refine does_enter2 Try.func61 rfl Try.ntmps61 rfl ?_
  have H := SH.start w noBlocks
  refine tr_seq (fun K1 hK1 => ?_)
  -- region 0: slots.go:118
  refine tr_region ?_
  refine tr_val (ov_assign rfl rfl) rfl rfl rfl ?_
  refine tr_nil (hK1 _ _ (TrC.keep [4, 0, 1] ?_))
  show TrC _ _ _ _ [(4, _), (0, _), (1, _)] _ _
  refine tr_seq (fun K2 hK2 => ?_)
  refine tr_seq (fun K3 hK3 => ?_)
  -- region 1: slots.go:119
  refine tr_region ?_
  refine tr_val (ov_move rfl rfl) rfl rfl rfl ?_
  refine tr_call (none_n p _ hp) rfl rfl rfl Try.call101 rfl rfl rfl ?_
  rintro _ w1 ⟨rfl, HC⟩
  have H := H.call0n HC
  refine tr_val (ov_move rfl rfl) rfl rfl rfl ?_
  refine tr_splitb (t := 8) rfl (fun s8 => ?_) (fun s8 => ?_)
  · skip
    refine tr_pass rfl rfl rfl ?_
    refine tr_pass rfl rfl rfl ?_
    refine tr_val (ov_pick (vb := undef) rfl rfl rfl rfl) rfl rfl rfl ?_
    refine tr_val (ov_move rfl rfl) rfl rfl rfl ?_
    refine tr_pass rfl rfl rfl ?_
    refine tr_pass rfl rfl rfl ?_
    refine tr_val (ov_pick (vb := undef) rfl rfl rfl rfl) rfl rfl rfl ?_
    refine tr_nil (hK3 _ _ (TrC.keep [15, 4, 0, 1] ?_))
    show TrC _ _ _ _ [(15, _), (4, _), (0, _), (1, _)] _ _
    refine tr_cond_t rfl rfl ?_
    refine tr_seq (fun K4 hK4 => ?_)
    -- region 2: slots.go:120
    refine tr_region ?_
    refine tr_val (ov_assign rfl rfl) rfl rfl rfl ?_
    refine tr_nil (hK4 _ _ (TrC.keep [4, 15, 0, 1] ?_))
    show TrC _ _ _ _ [(4, _), (15, _), (0, _), (1, _)] _ _
    refine tr_ret (post_ret1 (.inr rfl) rfl rfl ?_)
    exact ⟨rfl, H⟩
  · cases s8

theorem take_rel {W : List RThing} {Z : List Slot} {E : List (Int × Int × Nat)} {s i : Int} (hR : Rel W Z (usedN W : Nat) E) (h0 : 0 ≤ s) (h1 : s ≤ 63) (hi : ((sortT (slotL W s)).length : Int) ≤ i) : Rel (leftR W s) (Z.set s.toNat (none, 0, [])) ((clrN (usedN W) s.toNat : Nat) : Int) (mdels ((((sortT (slotL W s)).take i.toNat)).map (·.id)) E) := by
  refine hR.take h0 h1 _ fun x => ?_
  rw [List.take_of_length_le (by omega)]
  exact ((isort_perm (slotL W s)).map (·.id)).mem_iff

/-! (*curfew/slots.Ring).Take -/
set_option maxRecDepth 20000 in
theorem ringTake_c (d : Nat) (W : List RThing) (L : List Res) (w : World) (hL : RingL 161 30 d W L) (hO : (pack L).holds w) (s : Int) (hW : W.length ≤ 65536) : Does Try.prog 96 #[.pointer (some ⟨d, 0, none⟩), .int .i64 s] w (fun v w' => ∃ A' c', v = .slice A' (sortT (slotL W s)).length c' ∧ ∃ L', RingL 161 30 d (leftR W s) L' ∧ SH w (pack L).foot [vec A' c' 30 3 encThing (sortT (slotL W s)), pack L'] w') := by
  refine does_enter2 Try.func96 rfl Try.ntmps96 rfl ?_
  have H := SH.own1 hO
  refine tr_seq (fun K1 hK1 => ?_)
  -- region 0: slots.go:128
  refine tr_region ?_
  refine tr_val (ov_assign rfl rfl) rfl rfl rfl ?_
  refine tr_nil (hK1 _ _ (TrC.keep [4, 0, 1] ?_))
  show TrC _ _ _ _ [(4, _), (0, _), (1, _)] _ _
  refine tr_seq (fun K2 hK2 => ?_)
  refine tr_seq (fun K3 hK3 => ?_)
  -- region 1: slots.go:129
  refine tr_region ?_
  refine tr_val (ov_move rfl rfl) rfl rfl rfl ?_
  refine tr_call (none_ring d W L _ hL H.get0) rfl rfl rfl Try.call101 rfl rfl rfl ?_
  rintro _ w1 ⟨rfl, HC⟩
  have H := H.call0n HC
  refine tr_val (ov_move rfl rfl) rfl rfl rfl ?_
  refine tr_splitb (t := 10) rfl (fun s10 => ?_) (fun s10 => ?_)
  · cases s10
  · skip
    refine tr_val (ov_move rfl rfl) rfl rfl rfl ?_
    refine tr_val (ov_lss rfl rfl rfl) rfl rfl rfl ?_
    refine tr_val (ov_pick_f (va := undef) rfl rfl rfl rfl) rfl rfl rfl ?_
    refine tr_val (ov_move rfl rfl) rfl rfl rfl ?_
    refine tr_split (t := 14) rfl (fun s14 => ?_) (fun s14 => ?_)
    · skip
      refine tr_pass rfl rfl rfl ?_
      refine tr_pass rfl rfl rfl ?_
      refine tr_val (ov_pick (vb := undef) rfl rfl rfl rfl) rfl rfl rfl ?_
      refine tr_nil (hK3 _ _ (TrC.keep [17, 4, 0, 1] ?_))
      show TrC _ _ _ _ [(17, _), (4, _), (0, _), (1, _)] _ _
      refine tr_cond_t rfl rfl ?_
      refine tr_seq (fun K4 hK4 => ?_)
      -- region 2: slots.go:130
      refine tr_region ?_
      refine tr_val (ov_assign rfl rfl) rfl rfl rfl ?_
      refine tr_nil (hK4 _ _ (TrC.keep [4, 17, 0, 1] ?_))
      show TrC _ _ _ _ [(4, _), (17, _), (0, _), (1, _)] _ _
      refine tr_ret (post_ret1 (.inr rfl) rfl rfl ?_)
      have e := slotL_out (k := s) (W := W) (by obtain ⟨m, Z, u, E, ck, hR, rfl⟩ := hL; exact hR.wf) (by omega)
      have e2 := leftR_out (k := s) (W := W) (by obtain ⟨m, Z, u, E, ck, hR, rfl⟩ := hL; exact hR.wf) (by omega)
      rw [e, e2]
      exact ⟨none, 0, rfl, L, hL, H.addNil 30 3 encThing⟩
    · skip
      refine tr_val (ov_move rfl rfl) rfl rfl rfl ?_
      refine tr_val (ov_geq rfl rfl rfl) rfl rfl rfl ?_
      refine tr_val (ov_pick_f (va := undef) rfl rfl rfl rfl) rfl rfl rfl ?_
      refine tr_nil (hK3 _ _ (TrC.keep [17, 4, 0, 1] ?_))
      show TrC _ _ _ _ [(17, _), (4, _), (0, _), (1, _)] _ _
      refine tr_cond rfl (fun c17 => ?_) (fun c17 => ?_)
      · skip
        refine tr_seq (fun K5 hK5 => ?_)
        -- region 2: slots.go:130
        refine tr_region ?_
        refine tr_val (ov_assign rfl rfl) rfl rfl rfl ?_
        refine tr_nil (hK5 _ _ (TrC.keep [4, 17, 0, 1] ?_))
        show TrC _ _ _ _ [(4, _), (17, _), (0, _), (1, _)] _ _
        refine tr_ret (post_ret1 (.inr rfl) rfl rfl ?_)
        have e := slotL_out (k := s) (W := W) (by obtain ⟨m, Z, u, E, ck, hR, rfl⟩ := hL; exact hR.wf) (by omega)
        have e2 := leftR_out (k := s) (W := W) (by obtain ⟨m, Z, u, E, ck, hR, rfl⟩ := hL; exact hR.wf) (by omega)
        rw [e, e2]
        exact ⟨none, 0, rfl, L, hL, H.addNil 30 3 encThing⟩
      · skip
        refine tr_skip (hK2 _ _ (TrC.keep [17, 4, 0, 1] ?_))
        show TrC _ _ _ _ [(17, _), (4, _), (0, _), (1, _)] _ _
        refine tr_seq (fun K6 hK6 => ?_)
        -- region 3: slots.go:132
        refine tr_region ?_
        refine tr_val (ov_move rfl rfl) rfl rfl rfl ?_
        refine tr_val (ov_move rfl rfl) rfl rfl rfl ?_
        refine tr_call (ringLook_c d W L _ hL H.get0 s hW) rfl rfl rfl Try.call61 rfl rfl rfl ?_
        rintro _ w2 ⟨A1, c1, rfl, HC⟩
        have H := H.call0r HC
        refine tr_val (ov_assign rfl rfl) rfl rfl rfl ?_
        refine tr_nil (hK6 _ _ (TrC.keep [5, 17, 4, 0, 1] ?_))
        show TrC _ _ _ _ [(5, _), (17, _), (4, _), (0, _), (1, _)] _ _
        refine tr_seq (fun K7 hK7 => ?_)
        -- region 4: slots.go:133
        have hL0 := hL
        obtain ⟨m, Z, u, E, ck, hR, rfl⟩ := hL
        have hu := hR.used
        subst hu
        have hlen := hR.len
        have hwf := hR.wf
        have hul := usedN_lt hwf
        have hzs := hR.slots s (by omega) (by omega)
        have H := SH.unpackL [_] H
        have H := H.addNil 30 3 encThing
        change SH w (pack (ringL 161 30 d m Z (usedN W : Nat) E ck)).foot (vecZ 30 (none, 0, []) :: (vec A1 c1 30 3 encThing (sortT (slotL W s)) :: blk d 161 (cellsR Z (usedN W : Nat) m) :: mapS m E ck :: Z.map (vecZ 30))) _ at H
        have hst : ∀ z : Slot, (cellsR Z (usedN W : Nat) m).set s.toNat (cellZ z) = cellsR (Z.set s.toNat z) (usedN W : Nat) m := fun z => cellsR_setSlot z (by omega) (by omega)
        have H := SH.slotNew (k := s) [_, _, _] (none, 0, []) H (by omega) (by omega)
        refine tr_region ?_
        refine tr_val (ov_move rfl rfl) rfl rfl rfl ?_
        refine tr_val (ov_move rfl rfl) rfl rfl rfl ?_
        refine tr_val (ov_nilCheck rfl rfl) rfl rfl rfl ?_
        refine tr_val (ov_fieldAddr rfl Try.underlying161 rfl (Try.sizeOf159 _) (by decide) rfl) rfl rfl rfl ?_
        refine tr_val (ov_indexAddrA rfl Try.underlying159 (Try.sizeOf32 _) rfl rfl (by omega) (by omega)) rfl rfl rfl ?_
        refine tr_store (b := d) H.get1 rfl (Try.sizeOf32 _) rfl (adr_slot d s.toNat) rfl rfl (by rw [cellsR_len]; exact Nat.blt_eq.mpr (by omega)) rfl rfl ?_
        intro w9 U
        have H := H.upd1 (r := blk d 161 (cellsR (Z.set s.toNat ((none, 0, []) : Slot)) (usedN W : Nat) m)) (by rw [← hst]; exact U); clear U
        have hlen2 : (Z.set s.toNat ((none, 0, []) : Slot)).length = 64 := by simpa using hlen
        generalize hZ2 : (Z.set s.toNat ((none, 0, []) : Slot)) = Z2 at H hlen2
        refine tr_nil (hK7 _ _ (TrC.keep [5, 17, 4, 0, 1] ?_))
        show TrC _ _ _ _ [(5, _), (17, _), (4, _), (0, _), (1, _)] _ _
        refine tr_seq (fun K8 hK8 => ?_)
        -- region 5: slots.go:134
        refine tr_held (fun _ => True) mixed rfl H ?_
        intro w3 H
        refine th_take 0 rfl (by kernel_rfl) (by kernel_rfl) (by kernel_rfl) (trivial) (fun _ hS => ov_move rfl rfl) rfl rfl rfl ?_
        refine th_take 1 rfl (by kernel_rfl) (by kernel_rfl) (by kernel_rfl) (trivial) (fun _ hS => ov_nilCheck rfl rfl) rfl rfl rfl ?_
        refine th_take 2 rfl (by kernel_rfl) (by kernel_rfl) (by kernel_rfl) (trivial) (fun _ hS => ov_fieldAddr rfl Try.underlying161 rfl (Try.sizeOf28 _) (by decide) rfl) rfl rfl rfl ?_
        refine th_take 4 rfl (by kernel_rfl) (by kernel_rfl) (by kernel_rfl) (trivial) (fun _ hS => ov_move rfl rfl) rfl rfl rfl ?_
        refine th_take 5 rfl (by kernel_rfl) (by kernel_rfl) (by kernel_rfl) (trivial) (fun _ hS => ov_shl rfl rfl rfl (by omega) (shl_bit s (by omega) (by omega))) rfl rfl rfl ?_
        refine th_one 3 (by kernel_rfl) ?_
        refine tw_val (ov_load_blk H.get1 rfl (Try.isAgg28 _) rfl rfl (cellsR_used hlen2)) rfl (trivial) rfl rfl rfl ?_
        refine th_take 6 rfl (by kernel_rfl) (by kernel_rfl) (by kernel_rfl) (trivial) (fun _ hS => ov_andNot rfl rfl rfl (andNot_u64 (usedN W) s.toNat hul (by omega))) rfl rfl rfl ?_
        refine th_take 7 rfl (by kernel_rfl) (by kernel_rfl) (by kernel_rfl) (trivial) (fun _ hS => ov_nilCheck rfl rfl) rfl rfl rfl ?_
        refine th_take 8 rfl (by kernel_rfl) (by kernel_rfl) (by kernel_rfl) (trivial) (fun _ hS => ov_fieldAddr rfl Try.underlying161 rfl (Try.sizeOf28 _) (by decide) rfl) rfl rfl rfl ?_
        refine th_one 9 (by kernel_rfl) ?_
        refine tw_store (b := d) (j := 64) H.get1 rfl rfl (Try.sizeOf28 _) rfl rfl rfl rfl (by rw [cellsR_len]; exact Nat.blt_eq.mpr (by omega)) rfl rfl ?_
        intro w108 U
        have H := H.upd1 (r := blk d 161 (cellsR Z2 ((clrN (usedN W) s.toNat : Nat) : Int) m)) (cellsR_setUsed (Z := Z2) (u := (usedN W : Nat)) (m := m) ((clrN (usedN W) s.toNat : Nat) : Int) hlen2 ▸ U); clear U
        refine ⟨trivial, ?_⟩
        refine th_done (by kernel_rfl) ?_
        refine hK8 _ _ (TrC.keep [5, 17, 4, 0, 1] ?_)
        show TrC _ _ _ _ [(5, _), (17, _), (4, _), (0, _), (1, _)] _ _
        refine tr_seq (fun K9 hK9 => ?_)
        refine tr_seq (fun K10 hK10 => ?_)
        -- region 6: slots.go:135
        refine tr_region ?_
        refine tr_val (ov_move rfl rfl) rfl rfl rfl ?_
        refine tr_val (ov_len rfl rfl Try.underlying32 rfl) rfl rfl rfl ?_
        refine tr_val (ov_move rfl rfl) rfl rfl rfl ?_
        refine tr_nil (hK10 _ _ (TrC.keep [37, 36, 35, 5, 17, 4, 0, 1] ?_))
        show TrC _ _ _ _ [(37, _), (36, _), (35, _), (5, _), (17, _), (4, _), (0, _), (1, _)] _ _
        refine tr_block ?_
        refine tr_loop_ (X := Int) [36, 35, 5, 17, 4, 0, 1] (fun i => [(37, .int .i64 i)]) (fun i w' => 0 ≤ i ∧ i ≤ (sortT (slotL W s)).length ∧ SH w (pack (ringL 161 30 d m Z (usedN W : Nat) E ck)).foot (vec A1 c1 30 3 encThing (sortT (slotL W s)) :: blk d 161 (cellsR Z2 ((clrN (usedN W) s.toNat : Nat) : Int) m) :: mapS m (mdels ((((sortT (slotL W s)).take i.toNat)).map (·.id)) E) ck :: Z2.map (vecZ 30)) w') (fun i => ((sortT (slotL W s)).length - i).toNat) (0) (Sub.cons rfl (Sub.cons rfl (Sub.cons rfl (Sub.cons rfl (Sub.cons rfl (Sub.cons rfl (Sub.cons rfl (Sub.cons rfl Sub.nil)))))))) (⟨by omega, by omega, H⟩) ?_
        rintro i w4 ⟨hi0, hi1, H⟩ K11 hK11
        have hq := sortT_len (slotL W s)
        have hle := slotL_le W s
        show TrC _ _ _ _ [(37, _), (36, _), (35, _), (5, _), (17, _), (4, _), (0, _), (1, _)] _ _
        refine tr_seq (fun K12 hK12 => ?_)
        -- region 7: slots.go:135
        refine tr_region ?_
        refine tr_val (ov_lss rfl rfl rfl) rfl rfl rfl ?_
        refine tr_nil (hK12 _ _ (TrC.keep [38, 37, 36, 35, 5, 17, 4, 0, 1] ?_))
        show TrC _ _ _ _ [(38, _), (37, _), (36, _), (35, _), (5, _), (17, _), (4, _), (0, _), (1, _)] _ _
        refine tr_seq (fun K13 hK13 => ?_)
        refine tr_cond rfl (fun c38 => ?_) (fun c38 => ?_)
        · skip
          refine tr_skip (hK13 _ _ (TrC.keep [38, 37, 36, 35, 5, 17, 4, 0, 1] ?_))
          show TrC _ _ _ _ [(38, _), (37, _), (36, _), (35, _), (5, _), (17, _), (4, _), (0, _), (1, _)] _ _
          refine tr_seq (fun K14 hK14 => ?_)
          refine tr_block ?_
          refine tr_seq (fun K15 hK15 => ?_)
          -- region 8: slots.go:135
          refine tr_region ?_
          refine tr_val (ov_indexAddrR (vec_rd H.get0 lenThing (by decide)) rfl Try.underlying32 (Try.sizeOf30 _) rfl rfl (by omega) (by omega)) rfl rfl rfl ?_
          refine tr_val (ld_Thing (vec_rd H.get0 lenThing (by decide)) rfl (Try.isAgg30 _) (Try.sizeOf30 _) rfl (by omega) (by omega)) rfl rfl rfl ?_
          refine tr_alloc H rfl (Try.zeroValue30 _) rfl rfl rfl rfl ?_
          intro b1 w5 hb1 H
          (refine tr_storeW H.get0 rfl (Try.sizeOf30 _) rfl rfl rfl rfl rfl rfl rfl rfl ?_; intro w6 U; have H := H.upd0 U; clear U)
          refine tr_nil (hK15 _ _ (TrC.keep [7, 38, 37, 36, 35, 5, 17, 4, 0, 1] ?_))
          show TrC _ _ _ _ [(7, _), (38, _), (37, _), (36, _), (35, _), (5, _), (17, _), (4, _), (0, _), (1, _)] _ _
          -- region 9: slots.go:136
          refine tr_held (fun w' => (blk d 161 (cellsR Z2 ((clrN (usedN W) s.toNat : Nat) : Int) m)).holds w' ∧ (blk b1 30 [.int .u64 (gt (sortT (slotL W s)) i).id, .int .u64 (gt (sortT (slotL W s)) i).gen, .int .i64 (gt (sortT (slotL W s)) i).due]).holds w') mixed rfl H ?_
          intro w7 H
          refine th_take 0 rfl (by kernel_rfl) (by kernel_rfl) (by kernel_rfl) (⟨H.get2, H.get0⟩) (fun _ hS => ov_move rfl rfl) rfl rfl rfl ?_
          refine th_take 1 rfl (by kernel_rfl) (by kernel_rfl) (by kernel_rfl) (⟨H.get2, H.get0⟩) (fun _ hS => ov_nilCheck rfl rfl) rfl rfl rfl ?_
          refine th_take 2 rfl (by kernel_rfl) (by kernel_rfl) (by kernel_rfl) (⟨H.get2, H.get0⟩) (fun _ hS => ov_fieldAddr rfl Try.underlying161 rfl (Try.sizeOf158 _) (by decide) rfl) rfl rfl rfl ?_
          refine th_take 3 rfl (by kernel_rfl) (by kernel_rfl) (by kernel_rfl) (⟨H.get2, H.get0⟩) (fun _ hS => ov_load_blk hS.1 rfl (Try.isAgg158 _) rfl rfl (cellsR_map hlen2)) rfl rfl rfl ?_
          refine th_take 4 rfl (by kernel_rfl) (by kernel_rfl) (by kernel_rfl) (⟨H.get2, H.get0⟩) (fun _ hS => ov_fieldAddr rfl Try.underlying30 rfl (Try.sizeOf28 _) (by decide) rfl) rfl rfl rfl ?_
          refine th_take 5 rfl (by kernel_rfl) (by kernel_rfl) (by kernel_rfl) (⟨H.get2, H.get0⟩) (fun _ hS => ov_load_blk hS.2 rfl (Try.isAgg28 _) rfl rfl rfl) rfl rfl rfl ?_
          refine th_one 6 (by kernel_rfl) ?_
          refine tw_mapDel H.get3 rfl rfl rfl Try.underlying158 Try.underlying28 rfl rfl rfl rfl ?_
          intro w11 U; have H := H.upd3 U; clear U
          refine ⟨⟨H.get2, H.get0⟩, ?_⟩
          refine th_done (by kernel_rfl) ?_
          refine hK14 _ _ (TrC.keep [7, 38, 37, 36, 35, 5, 17, 4, 0, 1] ?_)
          show TrC _ _ _ _ [(7, _), (38, _), (37, _), (36, _), (35, _), (5, _), (17, _), (4, _), (0, _), (1, _)] _ _
          -- region 10: slots.go:135
          refine tr_region ?_
          refine tr_val (ov_add rfl rfl rfl (w64 (by omega))) rfl rfl rfl ?_
          refine tr_val (ov_move rfl rfl) rfl rfl rfl ?_
          skip
          exact tr_nil (hK11 (i + 1) _ _ (⟨by omega, by omega, by rw [mdels_take hi0 (by omega)]; exact H.drop0⟩) (by omega) (Sub.cons rfl (Sub.cons rfl (Sub.cons rfl (Sub.cons rfl (Sub.cons rfl (Sub.cons rfl (Sub.cons rfl (Sub.cons rfl Sub.nil)))))))))
        · skip
          refine tr_exit (hK9 _ _ (TrC.keep [38, 37, 36, 35, 5, 17, 4, 0, 1] ?_))
          show TrC _ _ _ _ [(38, _), (37, _), (36, _), (35, _), (5, _), (17, _), (4, _), (0, _), (1, _)] _ _
          refine tr_seq (fun K16 hK16 => ?_)
          -- region 11: slots.go:138
          refine tr_region ?_
          refine tr_val (ov_move rfl rfl) rfl rfl rfl ?_
          refine tr_val (ov_assign rfl rfl) rfl rfl rfl ?_
          refine tr_nil (hK16 _ _ (TrC.keep [4, 38, 37, 36, 35, 5, 17, 0, 1] ?_))
          show TrC _ _ _ _ [(4, _), (38, _), (37, _), (36, _), (35, _), (5, _), (17, _), (0, _), (1, _)] _ _
          refine tr_ret (post_ret1 (.inr rfl) rfl rfl ?_)
          exact ⟨A1, c1, rfl, _, ⟨m, Z2, _, _, _, by rw [← hZ2]; exact take_rel (i := i) hR (by omega) (by omega) (by omega), rfl⟩, SH.packL [_] H⟩

/-! (*curfew/slots.Ring).Take -/
set_option maxRecDepth 20000 in
theorem ringTake_n (p : Option Addr) (w : World) (hp : NoRing w p) (s : Int) : Does Try.prog 96 #[.pointer p, .int .i64 s] w (fun v w' => v = .slice none 0 0 ∧ SH w noBlocks [] w') := by
  refine does_enter2 Try.func96 rfl Try.ntmps96 rfl ?_
  have H := SH.start w noBlocks
  refine tr_seq (fun K1 hK1 => ?_)
  -- region 0: slots.go:128
  refine tr_region ?_
  refine tr_val (ov_assign rfl rfl) rfl rfl rfl ?_
  refine tr_nil (hK1 _ _ (TrC.keep [4, 0, 1] ?_))
  show TrC _ _ _ _ [(4, _), (0, _), (1, _)] _ _
  refine tr_seq (fun K2 hK2 => ?_)
  refine tr_seq (fun K3 hK3 => ?_)
  -- region 1: slots.go:129
  refine tr_region ?_
  refine tr_val (ov_move rfl rfl) rfl rfl rfl ?_
  refine tr_call (none_n p _ hp) rfl rfl rfl Try.call101 rfl rfl rfl ?_
  rintro _ w1 ⟨rfl, HC⟩
  have H := H.call0n HC
  refine tr_val (ov_move rfl rfl) rfl rfl rfl ?_
  refine tr_splitb (t := 10) rfl (fun s10 => ?_) (fun s10 => ?_)
  · skip
    refine tr_pass rfl rfl rfl ?_
    refine tr_pass rfl rfl rfl ?_
    refine tr_val (ov_pick (vb := undef) rfl rfl rfl rfl) rfl rfl rfl ?_
    refine tr_val (ov_move rfl rfl) rfl rfl rfl ?_
    refine tr_pass rfl rfl rfl ?_
    refine tr_pass rfl rfl rfl ?_
    refine tr_val (ov_pick (vb := undef) rfl rfl rfl rfl) rfl rfl rfl ?_
    refine tr_nil (hK3 _ _ (TrC.keep [17, 4, 0, 1] ?_))
    show TrC _ _ _ _ [(17, _), (4, _), (0, _), (1, _)] _ _
    refine tr_cond_t rfl rfl ?_
    refine tr_seq (fun K4 hK4 => ?_)
    -- region 2: slots.go:130
    refine tr_region ?_
    refine tr_val (ov_assign rfl rfl) rfl rfl rfl ?_
    refine tr_nil (hK4 _ _ (TrC.keep [4, 17, 0, 1] ?_))
    show TrC _ _ _ _ [(4, _), (17, _), (0, _), (1, _)] _ _
    refine tr_ret (post_ret1 (.inr rfl) rfl rfl ?_)
    exact ⟨rfl, H⟩
  · cases s10

theorem ringDrop_c (d : Nat) (W : List RThing) (L : List Res) (w : World) (hL : RingL 161 30 d W L) (hO : (pack L).holds w) (id : Int) (hW : W.length ≤ 65536) : Does Try.prog 63 #[.pointer (some ⟨d, 0, none⟩), .int .u64 id] w (fun v w' => v = .tuple #[.agg #[.int .u64 (rOr (findR id W)).id, .int .u64 (rOr (findR id W)).gen, .int .i64 (rOr (findR id W)).due], .bool (findR id W).isSome] ∧ ∃ L', RingL 161 30 d (dropR id W) L' ∧ SH w (pack L).foot [pack L'] w') := by
  cases hf : findR id W with
  | none => exact (ringDrop_none d W L w hL hO id hf).mono fun v w' h => ⟨h.1, L, by rw [dropR_none hf]; exact hL, (SH.own1 hO).call0n h.2⟩
  | some r => exact (ringDrop_some d W L w hL hO id r hf hW).mono fun v w' h => ⟨h.1, h.2⟩
theorem ringGet_c (d : Nat) (W : List RThing) (L : List Res) (w : World) (hL : RingL 161 30 d W L) (hO : (pack L).holds w) (id : Int) (hW : W.length ≤ 65536) : Does Try.prog 70 #[.pointer (some ⟨d, 0, none⟩), .int .u64 id] w (fun v w' => v = .tuple #[.agg #[.int .u64 (rOr (findR id W)).id, .int .u64 (rOr (findR id W)).gen, .int .i64 (rOr (findR id W)).due], .int .i64 (rOr (findR id W)).slot, .bool (findR id W).isSome] ∧ SH w noBlocks [] w') := by
  cases hf : findR id W with
  | none => exact (ringGet_none d W L w hL hO id hf).mono fun v w' h => ⟨h.1, h.2⟩
  | some r => exact (ringGet_some d W L w hL hO id r hf hW).mono fun v w' h => ⟨h.1, h.2⟩

end Go.Proofs.Ytblipnjjgbggiaa
