/- Contracts of wheel.Wheel: Contracts of deadline.Book. Conditions: none. -/
import Derived.Test.YtblipnjjgbggiaaWhC
namespace Go.Proofs.Ytblipnjjgbggiaa
open Go Go.RowKit
set_option linter.unusedVariables false
set_option linter.unusedSimpArgs false

/-- A book's memory: where its wheel is and the number it gave last. -/
def BookX (b : Nat) (now last : Int) (X : List Thing) (L : List Res) : Prop := 0 ≤ last ∧ last ≤ 1152921504606846976 ∧ ∃ d Lw, WheelX 65 117 161 30 d now X Lw ∧ L = [blk b 95 [.pointer (some ⟨d, 0, none⟩), .int .u64 last], pack Lw]
def NoBook (w : World) (p : Option Addr) : Prop := p = none ∨ ∃ b, p = some ⟨b, 0, none⟩ ∧ (blk b 95 [.pointer none, .int .u64 0]).holds w
theorem NoBook.later {w w' : World} {p : Option Addr} {rs : List Res} (h : NoBook w p) (H : SH w noBlocks rs w') : NoBook w' p := by
  rcases h with h | ⟨d, h1, h3⟩
  · exact .inl h
  · exact .inr ⟨d, h1, H.res0 h3⟩
theorem wNowX (d : Nat) (now : Int) (X : List Thing) (L : List Res) (w : World) (hX : WheelX 65 117 161 30 d now X L) (hO : (pack L).holds w) : Does Try.prog 23 #[.pointer (some ⟨d, 0, none⟩)] w (fun v w' => v = .int .i64 now ∧ SH w noBlocks [] w') := by
  obtain ⟨Rs, Fv, _, hM⟩ := hX
  exact wNow_m d now Rs Fv L w hM hO
def setE (last : Int) (X : List Thing) (id due : Int) : Int := if ¬ (0 ≤ due ∧ due ≤ 1125899906842624) then 2 else if 1152921504606846976 ≤ last then 10 else if (findT id X).isSome = false ∧ 256 ≤ X.length then 30 else 0
def setN (last : Int) (X : List Thing) (id due : Int) : Int := if setE last X id due = 0 then last + 1 else last
def setR (last : Int) (X : List Thing) (id due : Int) : Int := if setE last X id due = 0 then last + 1 else 0
def setX (last : Int) (X : List Thing) (id due : Int) : List Thing := if setE last X id due = 0 then dropT id X ++ [⟨id, last + 1, due⟩] else X
theorem dropT_gone {id : Int} {X : List Thing} (h : Ids X) : findT id (dropT id X) = none := findT_none.mpr fun t ht e => ((mem_dropT h).mp ht).2 e.symm
theorem set_arm {X : List Thing} {id n due : Int} (hi : Ids X) (hl : X.length ≤ 256) (hd : 0 ≤ due ∧ due ≤ 1125899906842624) (hf : ¬ ((findT id X).isSome = false ∧ 256 ≤ X.length)) : armV (dropT id X) ⟨id, n, due⟩ = (dropT id X ++ [⟨id, n, due⟩], 0) := by
  unfold armV
  rw [if_neg (Classical.not_not.mpr hd), dropT_gone hi, if_neg (by decide), if_neg]
  cases h : findT id X with
  | none => rw [h] at hf; rw [dropT_none h]; intro q; exact hf ⟨rfl, q⟩
  | some u => have := dropT_len h; omega

/-! (*curfew/deadline.Book).none -/
set_option maxRecDepth 20000 in
theorem bnone_c (b : Nat) (now last : Int) (X : List Thing) (L : List Res) (w : World) (hX : BookX b now last X L) (hO : (pack L).holds w) : Does Try.prog 71 #[.pointer (some ⟨b, 0, none⟩)] w (fun v w' => v = .bool false ∧ SH w noBlocks [] w') := by
  have hX0 := hX
  obtain ⟨hla0, hla1, d, Lw, hW, rfl⟩ := hX
  have hb : (blk b 95 [.pointer (some ⟨d, 0, none⟩), .int .u64 last]).holds w := pack_hold hO (by simp)
  have hw : (pack Lw).holds w := pack_hold hO (by simp)
  refine does_enter1 Try.func71 rfl Try.ntmps71 rfl ?_
  have H := SH.start w noBlocks
  refine tr_seq (fun K1 hK1 => ?_)
  -- region 0: deadline.go:84
  refine tr_region ?_
  refine tr_val (ov_assign rfl rfl) rfl rfl rfl ?_
  refine tr_nil (hK1 _ _ (TrC.keep [2, 0] ?_))
  show TrC _ _ _ _ [(2, _), (0, _)] _ _
  refine tr_seq (fun K2 hK2 => ?_)
  -- region 1: deadline.go:84
  refine tr_region ?_
  refine tr_val (ov_move rfl rfl) rfl rfl rfl ?_
  refine tr_val (ov_eql_nil rfl Try.underlying69 rfl rfl) rfl rfl rfl ?_
  refine tr_val (ov_move rfl rfl) rfl rfl rfl ?_
  refine tr_splitb (t := 5) rfl (fun s5 => ?_) (fun s5 => ?_)
  · cases s5
  · skip
    refine tr_val (ov_move rfl rfl) rfl rfl rfl ?_
    refine tr_val (ov_nilCheck rfl rfl) rfl rfl rfl ?_
    refine tr_val (ov_fieldAddr rfl Try.underlying95 rfl (Try.sizeOf24 _) (by decide) rfl) rfl rfl rfl ?_
    refine tr_val (ov_load_blk (H.res0 hb) rfl (Try.isAgg24 _) rfl rfl rfl) rfl rfl rfl ?_
    refine tr_val (ov_eql_nil rfl Try.underlying24 rfl rfl) rfl rfl rfl ?_
    refine tr_val (ov_pick_f (va := undef) rfl rfl rfl rfl) rfl rfl rfl ?_
    refine tr_val (ov_assign rfl rfl) rfl rfl rfl ?_
    refine tr_nil (hK2 _ _ (TrC.keep [2] ?_))
    show TrC _ _ _ _ [(2, _)] _ _
    refine tr_ret (post_ret1 (.inr rfl) rfl rfl ?_)
    exact ⟨rfl, H⟩

/-! (*curfew/deadline.Book).none -/
set_option maxRecDepth 20000 in
theorem bnone_nil (w : World) : Does Try.prog 71 #[.pointer none] w (fun v w' => v = .bool true ∧ SH w noBlocks [] w') := by
  refine does_enter1 Try.func71 rfl Try.ntmps71 rfl ?_
  have H := SH.start w noBlocks
  refine tr_seq (fun K1 hK1 => ?_)
  -- region 0: deadline.go:84
  refine tr_region ?_
  refine tr_val (ov_assign rfl rfl) rfl rfl rfl ?_
  refine tr_nil (hK1 _ _ (TrC.keep [2, 0] ?_))
  show TrC _ _ _ _ [(2, _), (0, _)] _ _
  refine tr_seq (fun K2 hK2 => ?_)
  -- region 1: deadline.go:84
  refine tr_region ?_
  refine tr_val (ov_move rfl rfl) rfl rfl rfl ?_
  refine tr_val (ov_eql_nil rfl Try.underlying69 rfl rfl) rfl rfl rfl ?_
  refine tr_val (ov_move rfl rfl) rfl rfl rfl ?_
  refine tr_splitb (t := 5) rfl (fun s5 => ?_) (fun s5 => ?_)
  · skip
    refine tr_pass rfl rfl rfl ?_
    refine tr_pass rfl rfl rfl ?_
    refine tr_pass rfl rfl rfl ?_
    refine tr_pass rfl rfl rfl ?_
    refine tr_pass rfl rfl rfl ?_
    refine tr_val (ov_pick (vb := undef) rfl rfl rfl rfl) rfl rfl rfl ?_
    refine tr_val (ov_assign rfl rfl) rfl rfl rfl ?_
    refine tr_nil (hK2 _ _ (TrC.keep [2] ?_))
    show TrC _ _ _ _ [(2, _)] _ _
    refine tr_ret (post_ret1 (.inr rfl) rfl rfl ?_)
    exact ⟨rfl, H⟩
  · cases s5

/-! (*curfew/deadline.Book).none -/
set_option maxRecDepth 20000 in
theorem bnone_zero (b : Nat) (w : World) (hb : (blk b 95 [.pointer none, .int .u64 0]).holds w) : Does Try.prog 71 #[.pointer (some ⟨b, 0, none⟩)] w (fun v w' => v = .bool true ∧ SH w noBlocks [] w') := by
  refine does_enter1 Try.func71 rfl Try.ntmps71 rfl ?_
  have H := SH.start w noBlocks
  refine tr_seq (fun K1 hK1 => ?_)
  -- region 0: deadline.go:84
  refine tr_region ?_
  refine tr_val (ov_assign rfl rfl) rfl rfl rfl ?_
  refine tr_nil (hK1 _ _ (TrC.keep [2, 0] ?_))
  show TrC _ _ _ _ [(2, _), (0, _)] _ _
  refine tr_seq (fun K2 hK2 => ?_)
  -- region 1: deadline.go:84
  refine tr_region ?_
  refine tr_val (ov_move rfl rfl) rfl rfl rfl ?_
  refine tr_val (ov_eql_nil rfl Try.underlying69 rfl rfl) rfl rfl rfl ?_
  refine tr_val (ov_move rfl rfl) rfl rfl rfl ?_
  refine tr_splitb (t := 5) rfl (fun s5 => ?_) (fun s5 => ?_)
  · cases s5
  · skip
    refine tr_val (ov_move rfl rfl) rfl rfl rfl ?_
    refine tr_val (ov_nilCheck rfl rfl) rfl rfl rfl ?_
    refine tr_val (ov_fieldAddr rfl Try.underlying95 rfl (Try.sizeOf24 _) (by decide) rfl) rfl rfl rfl ?_
    refine tr_val (ov_load_blk (H.res0 hb) rfl (Try.isAgg24 _) rfl rfl rfl) rfl rfl rfl ?_
    refine tr_val (ov_eql_nil rfl Try.underlying24 rfl rfl) rfl rfl rfl ?_
    refine tr_val (ov_pick_f (va := undef) rfl rfl rfl rfl) rfl rfl rfl ?_
    refine tr_val (ov_assign rfl rfl) rfl rfl rfl ?_
    refine tr_nil (hK2 _ _ (TrC.keep [2] ?_))
    show TrC _ _ _ _ [(2, _)] _ _
    refine tr_ret (post_ret1 (.inr rfl) rfl rfl ?_)
    exact ⟨rfl, H⟩

theorem bnone_n (p : Option Addr) (w : World) (h : NoBook w p) : Does Try.prog 71 #[.pointer p] w (fun v w' => v = .bool true ∧ SH w noBlocks [] w') := by
  rcases h with rfl | ⟨b, rfl, hb⟩
  · exact bnone_nil w
  · exact bnone_zero b w hb

/-! curfew/deadline.New -/
set_option maxRecDepth 20000 in
theorem bNew_c (now : Int) (w : World) (hn : 0 ≤ now ∧ now ≤ 1125899906842624) : Does Try.prog 28 #[.int .i64 now] w (fun v w' => ∃ b L, v = .pointer (some ⟨b, 0, none⟩) ∧ BookX b now 0 [] L ∧ SH w noBlocks [pack L] w') := by
  refine does_enter1 Try.func28 rfl Try.ntmps28 rfl ?_
  have H := SH.start w noBlocks
  refine tr_seq (fun K1 hK1 => ?_)
  -- region 0: deadline.go:63
  refine tr_region ?_
  refine tr_val (ov_assign rfl rfl) rfl rfl rfl ?_
  refine tr_nil (hK1 _ _ (TrC.keep [2, 0] ?_))
  show TrC _ _ _ _ [(2, _), (0, _)] _ _
  refine tr_seq (fun K2 hK2 => ?_)
  -- region 1: deadline.go:64
  refine tr_region ?_
  refine tr_val (ov_move rfl rfl) rfl rfl rfl ?_
  refine tr_call (wNew_c now _ hn) rfl rfl rfl Try.call14 rfl rfl rfl ?_
  rintro _ w1 ⟨d, L0, rfl, hX0, HC⟩
  have H := H.call0r HC
  refine tr_val (ov_assign rfl rfl) rfl rfl rfl ?_
  refine tr_nil (hK2 _ _ (TrC.keep [3, 2] ?_))
  show TrC _ _ _ _ [(3, _), (2, _)] _ _
  refine tr_seq (fun K3 hK3 => ?_)
  refine tr_seq (fun K4 hK4 => ?_)
  -- region 2: deadline.go:65
  refine tr_region ?_
  refine tr_val (ov_move rfl rfl) rfl rfl rfl ?_
  refine tr_val (ov_eql_nil rfl Try.underlying24 rfl rfl) rfl rfl rfl ?_
  refine tr_nil (hK4 _ _ (TrC.keep [7, 3, 2] ?_))
  show TrC _ _ _ _ [(7, _), (3, _), (2, _)] _ _
  refine tr_condb rfl (fun c7 => ?_) (fun c7 => ?_)
  · cases c7
  · skip
    refine tr_skip (hK3 _ _ (TrC.keep [7, 3, 2] ?_))
    show TrC _ _ _ _ [(7, _), (3, _), (2, _)] _ _
    refine tr_seq (fun K5 hK5 => ?_)
    -- region 4: deadline.go:68
    refine tr_region ?_
    refine tr_val (ov_move rfl rfl) rfl rfl rfl ?_
    refine tr_val (ov_build rfl (fun ρ k => bs1 k rfl) (bld95_0 _ _)) rfl rfl rfl ?_
    refine tr_box H rfl rfl rfl rfl rfl rfl ?_
    intro b w2 hb H
    refine tr_val (ov_assign rfl rfl) rfl rfl rfl ?_
    refine tr_nil (hK5 _ _ (TrC.keep [2, 7, 3] ?_))
    show TrC _ _ _ _ [(2, _), (7, _), (3, _)] _ _
    refine tr_ret (post_ret1 (.inr rfl) rfl rfl ?_)
    exact ⟨b, _, rfl, ⟨by omega, by omega, d, L0, hX0, rfl⟩, SH.pack1 H⟩

/-! curfew/deadline.New -/
set_option maxRecDepth 20000 in
theorem bNew_nil (now : Int) (w : World) (hn : ¬ (0 ≤ now ∧ now ≤ 1125899906842624)) : Does Try.prog 28 #[.int .i64 now] w (fun v w' => v = .pointer none ∧ SH w noBlocks [] w') := by
  refine does_enter1 Try.func28 rfl Try.ntmps28 rfl ?_
  have H := SH.start w noBlocks
  refine tr_seq (fun K1 hK1 => ?_)
  -- region 0: deadline.go:63
  refine tr_region ?_
  refine tr_val (ov_assign rfl rfl) rfl rfl rfl ?_
  refine tr_nil (hK1 _ _ (TrC.keep [2, 0] ?_))
  show TrC _ _ _ _ [(2, _), (0, _)] _ _
  refine tr_seq (fun K2 hK2 => ?_)
  -- region 1: deadline.go:64
  refine tr_region ?_
  refine tr_val (ov_move rfl rfl) rfl rfl rfl ?_
  refine tr_call (wNew_nil now _ hn) rfl rfl rfl Try.call14 rfl rfl rfl ?_
  rintro _ w1 ⟨rfl, HC⟩
  have H := H.call0n HC
  refine tr_val (ov_assign rfl rfl) rfl rfl rfl ?_
  refine tr_nil (hK2 _ _ (TrC.keep [3, 2] ?_))
  show TrC _ _ _ _ [(3, _), (2, _)] _ _
  refine tr_seq (fun K3 hK3 => ?_)
  refine tr_seq (fun K4 hK4 => ?_)
  -- region 2: deadline.go:65
  refine tr_region ?_
  refine tr_val (ov_move rfl rfl) rfl rfl rfl ?_
  refine tr_val (ov_eql_nil rfl Try.underlying24 rfl rfl) rfl rfl rfl ?_
  refine tr_nil (hK4 _ _ (TrC.keep [7, 3, 2] ?_))
  show TrC _ _ _ _ [(7, _), (3, _), (2, _)] _ _
  refine tr_condb rfl (fun c7 => ?_) (fun c7 => ?_)
  · skip
    refine tr_seq (fun K5 hK5 => ?_)
    -- region 3: deadline.go:66
    refine tr_region ?_
    refine tr_val (ov_assign rfl rfl) rfl rfl rfl ?_
    refine tr_nil (hK5 _ _ (TrC.keep [2, 7, 3] ?_))
    show TrC _ _ _ _ [(2, _), (7, _), (3, _)] _ _
    refine tr_ret (post_ret1 (.inr rfl) rfl rfl ?_)
    exact ⟨rfl, H⟩
  · cases c7

/-! (*curfew/deadline.Book).Get -/
set_option maxRecDepth 20000 in
theorem bGet_c (b : Nat) (now last : Int) (X : List Thing) (L : List Res) (w : World) (hX : BookX b now last X L) (hO : (pack L).holds w) (id : Int) : Does Try.prog 41 #[.pointer (some ⟨b, 0, none⟩), .int .u64 id] w (fun v w' => v = .tuple #[.agg #[.int .u64 (tOr (findT id X)).id, .int .u64 (tOr (findT id X)).gen, .int .i64 (tOr (findT id X)).due], .bool (findT id X).isSome] ∧ SH w noBlocks [] w') := by
  have hX0 := hX
  obtain ⟨hla0, hla1, d, Lw, hW, rfl⟩ := hX
  have hb : (blk b 95 [.pointer (some ⟨d, 0, none⟩), .int .u64 last]).holds w := pack_hold hO (by simp)
  have hw : (pack Lw).holds w := pack_hold hO (by simp)
  refine does_enter2 Try.func41 rfl Try.ntmps41 rfl ?_
  have H := SH.start w noBlocks
  refine tr_seq (fun K1 hK1 => ?_)
  -- region 0: deadline.go:104
  refine tr_region ?_
  refine tr_alloc H rfl (Try.zeroValue30 _) rfl rfl rfl rfl ?_
  intro b1 w1 hb1 H
  refine tr_val (ov_assign rfl rfl) rfl rfl rfl ?_
  refine tr_nil (hK1 _ _ (TrC.keep [5, 4, 0, 1] ?_))
  show TrC _ _ _ _ [(5, _), (4, _), (0, _), (1, _)] _ _
  refine tr_seq (fun K2 hK2 => ?_)
  refine tr_seq (fun K3 hK3 => ?_)
  -- region 1: deadline.go:105
  refine tr_region ?_
  refine tr_val (ov_move rfl rfl) rfl rfl rfl ?_
  refine tr_call (bnone_c b now last X _ _ hX0 (H.res0 hO)) rfl rfl rfl Try.call71 rfl rfl rfl ?_
  rintro _ w2 ⟨rfl, HC⟩
  have H := H.call0n HC
  refine tr_nil (hK3 _ _ (TrC.keep [7, 5, 4, 0, 1] ?_))
  show TrC _ _ _ _ [(7, _), (5, _), (4, _), (0, _), (1, _)] _ _
  refine tr_condb rfl (fun c7 => ?_) (fun c7 => ?_)
  · cases c7
  · skip
    refine tr_skip (hK2 _ _ (TrC.keep [7, 5, 4, 0, 1] ?_))
    show TrC _ _ _ _ [(7, _), (5, _), (4, _), (0, _), (1, _)] _ _
    refine tr_seq (fun K4 hK4 => ?_)
    -- region 3: deadline.go:108
    refine tr_region ?_
    refine tr_val (ov_move rfl rfl) rfl rfl rfl ?_
    refine tr_val (ov_nilCheck rfl rfl) rfl rfl rfl ?_
    refine tr_val (ov_fieldAddr rfl Try.underlying95 rfl (Try.sizeOf24 _) (by decide) rfl) rfl rfl rfl ?_
    refine tr_val (ov_load_blk (H.res0 hb) rfl (Try.isAgg24 _) rfl rfl rfl) rfl rfl rfl ?_
    refine tr_val (ov_move rfl rfl) rfl rfl rfl ?_
    refine tr_call (wGet_c d now X Lw _ hW (H.res0 hw) id) rfl rfl rfl Try.call27 rfl rfl rfl ?_
    rintro _ w3 ⟨rfl, HC⟩
    have H := H.call0n HC
    refine tr_val (ov_extract rfl rfl rfl) rfl rfl rfl ?_
    refine tr_val (ov_extract rfl rfl rfl) rfl rfl rfl ?_
    (refine tr_storeW H.get0 rfl (Try.sizeOf30 _) rfl rfl rfl rfl rfl rfl rfl rfl ?_; intro w4 U; have H := H.upd0 U; clear U)
    refine tr_val (ov_assign rfl rfl) rfl rfl rfl ?_
    refine tr_nil (hK4 _ _ (TrC.keep [5, 7, 4, 0] ?_))
    show TrC _ _ _ _ [(5, _), (7, _), (4, _), (0, _)] _ _
    refine tr_ret (post_ret2 (.inr rfl) rfl (by exact ⟨_, rfl, res_blkN H.get0 (Try.isAgg30 _) (Try.sizeOf30 _) rfl rfl⟩) rfl ?_)
    exact ⟨rfl, H.drop0⟩

/-! (*curfew/deadline.Book).Get -/
set_option maxRecDepth 20000 in
theorem bGet_n (p : Option Addr) (w : World) (hp : NoBook w p) (id : Int) : Does Try.prog 41 #[.pointer p, .int .u64 id] w (fun v w' => v = .tuple #[.agg #[.int .u64 0, .int .u64 0, .int .i64 0], .bool false] ∧ SH w noBlocks [] w') := by
  refine does_enter2 Try.func41 rfl Try.ntmps41 rfl ?_
  have H := SH.start w noBlocks
  refine tr_seq (fun K1 hK1 => ?_)
  -- region 0: deadline.go:104
  refine tr_region ?_
  refine tr_alloc H rfl (Try.zeroValue30 _) rfl rfl rfl rfl ?_
  intro b1 w1 hb1 H
  refine tr_val (ov_assign rfl rfl) rfl rfl rfl ?_
  refine tr_nil (hK1 _ _ (TrC.keep [5, 4, 0, 1] ?_))
  show TrC _ _ _ _ [(5, _), (4, _), (0, _), (1, _)] _ _
  refine tr_seq (fun K2 hK2 => ?_)
  refine tr_seq (fun K3 hK3 => ?_)
  -- region 1: deadline.go:105
  refine tr_region ?_
  refine tr_val (ov_move rfl rfl) rfl rfl rfl ?_
  refine tr_call (bnone_n p _ (hp.later H)) rfl rfl rfl Try.call71 rfl rfl rfl ?_
  rintro _ w2 ⟨rfl, HC⟩
  have H := H.call0n HC
  refine tr_nil (hK3 _ _ (TrC.keep [7, 5, 4, 0, 1] ?_))
  show TrC _ _ _ _ [(7, _), (5, _), (4, _), (0, _), (1, _)] _ _
  refine tr_condb rfl (fun c7 => ?_) (fun c7 => ?_)
  · skip
    refine tr_seq (fun K4 hK4 => ?_)
    -- region 2: deadline.go:106
    refine tr_region ?_
    refine tr_val (ov_build rfl (fun ρ k => bs0 k) (bld30 _)) rfl rfl rfl ?_
    (refine tr_storeW H.get0 rfl (Try.sizeOf30 _) rfl rfl rfl rfl rfl rfl rfl rfl ?_; intro w3 U; have H := H.upd0 U; clear U)
    refine tr_val (ov_assign rfl rfl) rfl rfl rfl ?_
    refine tr_nil (hK4 _ _ (TrC.keep [5, 7, 4, 0, 1] ?_))
    show TrC _ _ _ _ [(5, _), (7, _), (4, _), (0, _), (1, _)] _ _
    refine tr_ret (post_ret2 (.inr rfl) rfl (by exact ⟨_, rfl, res_blkN H.get0 (Try.isAgg30 _) (Try.sizeOf30 _) rfl rfl⟩) rfl ?_)
    exact ⟨rfl, H.drop0⟩
  · cases c7

/-! (*curfew/deadline.Book).Clear -/
set_option maxRecDepth 20000 in
theorem bClear_c (b : Nat) (now last : Int) (X : List Thing) (L : List Res) (w : World) (hX : BookX b now last X L) (hO : (pack L).holds w) (id : Int) : Does Try.prog 30 #[.pointer (some ⟨b, 0, none⟩), .int .u64 id] w (fun v w' => v = .tuple #[.agg #[.int .u64 (tOr (findT id X)).id, .int .u64 (tOr (findT id X)).gen, .int .i64 (tOr (findT id X)).due], .bool (findT id X).isSome] ∧ ∃ L', BookX b now last (dropT id X) L' ∧ SH w (pack L).foot [pack L'] w') := by
  refine does_enter2 Try.func30 rfl Try.ntmps30 rfl ?_
  have H := SH.own1 hO
  refine tr_seq (fun K1 hK1 => ?_)
  -- region 0: deadline.go:112
  refine tr_region ?_
  refine tr_alloc H rfl (Try.zeroValue30 _) rfl rfl rfl rfl ?_
  intro b1 w1 hb1 H
  refine tr_val (ov_assign rfl rfl) rfl rfl rfl ?_
  refine tr_nil (hK1 _ _ (TrC.keep [5, 4, 0, 1] ?_))
  show TrC _ _ _ _ [(5, _), (4, _), (0, _), (1, _)] _ _
  refine tr_seq (fun K2 hK2 => ?_)
  refine tr_seq (fun K3 hK3 => ?_)
  -- region 1: deadline.go:113
  refine tr_region ?_
  refine tr_val (ov_move rfl rfl) rfl rfl rfl ?_
  refine tr_call (bnone_c b now last X L _ hX H.get1) rfl rfl rfl Try.call71 rfl rfl rfl ?_
  rintro _ w2 ⟨rfl, HC⟩
  have H := H.call0n HC
  refine tr_nil (hK3 _ _ (TrC.keep [7, 5, 4, 0, 1] ?_))
  show TrC _ _ _ _ [(7, _), (5, _), (4, _), (0, _), (1, _)] _ _
  refine tr_condb rfl (fun c7 => ?_) (fun c7 => ?_)
  · cases c7
  · skip
    refine tr_skip (hK2 _ _ (TrC.keep [7, 5, 4, 0, 1] ?_))
    show TrC _ _ _ _ [(7, _), (5, _), (4, _), (0, _), (1, _)] _ _
    refine tr_seq (fun K4 hK4 => ?_)
    -- region 3: deadline.go:116
    obtain ⟨hla0, hla1, d, Lw, hW, rfl⟩ := hX
    have H := SH.unpackL [_] H
    refine tr_region ?_
    refine tr_val (ov_move rfl rfl) rfl rfl rfl ?_
    refine tr_val (ov_nilCheck rfl rfl) rfl rfl rfl ?_
    refine tr_val (ov_fieldAddr rfl Try.underlying95 rfl (Try.sizeOf24 _) (by decide) rfl) rfl rfl rfl ?_
    refine tr_val (ov_load_blk H.get1 rfl (Try.isAgg24 _) rfl rfl rfl) rfl rfl rfl ?_
    refine tr_val (ov_move rfl rfl) rfl rfl rfl ?_
    refine tr_call (wCancel_c d now X Lw _ hW H.get2 id) rfl rfl rfl Try.call21 rfl rfl rfl ?_
    rintro _ w3 ⟨rfl, L1, hX1, HC⟩
    have H := H.top2.call1 HC
    refine tr_val (ov_extract rfl rfl rfl) rfl rfl rfl ?_
    refine tr_val (ov_extract rfl rfl rfl) rfl rfl rfl ?_
    (refine tr_storeW H.get1 rfl (Try.sizeOf30 _) rfl rfl rfl rfl rfl rfl rfl rfl ?_; intro w4 U; have H := H.upd1 U; clear U)
    refine tr_val (ov_assign rfl rfl) rfl rfl rfl ?_
    refine tr_nil (hK4 _ _ (TrC.keep [5, 7, 4, 0] ?_))
    show TrC _ _ _ _ [(5, _), (7, _), (4, _), (0, _)] _ _
    refine tr_ret (post_ret2 (.inr rfl) rfl (by exact ⟨_, rfl, res_blkN H.get1 (Try.isAgg30 _) (Try.sizeOf30 _) rfl rfl⟩) rfl ?_)
    exact ⟨rfl, _, ⟨hla0, hla1, d, L1, hX1, rfl⟩, SH.pack1 H.drop1.top1⟩

/-! (*curfew/deadline.Book).Clear -/
set_option maxRecDepth 20000 in
theorem bClear_n (p : Option Addr) (w : World) (hp : NoBook w p) (id : Int) : Does Try.prog 30 #[.pointer p, .int .u64 id] w (fun v w' => v = .tuple #[.agg #[.int .u64 0, .int .u64 0, .int .i64 0], .bool false] ∧ SH w noBlocks [] w') := by
  refine does_enter2 Try.func30 rfl Try.ntmps30 rfl ?_
  have H := SH.start w noBlocks
  refine tr_seq (fun K1 hK1 => ?_)
  -- region 0: deadline.go:112
  refine tr_region ?_
  refine tr_alloc H rfl (Try.zeroValue30 _) rfl rfl rfl rfl ?_
  intro b1 w1 hb1 H
  refine tr_val (ov_assign rfl rfl) rfl rfl rfl ?_
  refine tr_nil (hK1 _ _ (TrC.keep [5, 4, 0, 1] ?_))
  show TrC _ _ _ _ [(5, _), (4, _), (0, _), (1, _)] _ _
  refine tr_seq (fun K2 hK2 => ?_)
  refine tr_seq (fun K3 hK3 => ?_)
  -- region 1: deadline.go:113
  refine tr_region ?_
  refine tr_val (ov_move rfl rfl) rfl rfl rfl ?_
  refine tr_call (bnone_n p _ (hp.later H)) rfl rfl rfl Try.call71 rfl rfl rfl ?_
  rintro _ w2 ⟨rfl, HC⟩
  have H := H.call0n HC
  refine tr_nil (hK3 _ _ (TrC.keep [7, 5, 4, 0, 1] ?_))
  show TrC _ _ _ _ [(7, _), (5, _), (4, _), (0, _), (1, _)] _ _
  refine tr_condb rfl (fun c7 => ?_) (fun c7 => ?_)
  · skip
    refine tr_seq (fun K4 hK4 => ?_)
    -- region 2: deadline.go:114
    refine tr_region ?_
    refine tr_val (ov_build rfl (fun ρ k => bs0 k) (bld30 _)) rfl rfl rfl ?_
    (refine tr_storeW H.get0 rfl (Try.sizeOf30 _) rfl rfl rfl rfl rfl rfl rfl rfl ?_; intro w3 U; have H := H.upd0 U; clear U)
    refine tr_val (ov_assign rfl rfl) rfl rfl rfl ?_
    refine tr_nil (hK4 _ _ (TrC.keep [5, 7, 4, 0, 1] ?_))
    show TrC _ _ _ _ [(5, _), (7, _), (4, _), (0, _), (1, _)] _ _
    refine tr_ret (post_ret2 (.inr rfl) rfl (by exact ⟨_, rfl, res_blkN H.get0 (Try.isAgg30 _) (Try.sizeOf30 _) rfl rfl⟩) rfl ?_)
    exact ⟨rfl, H.drop0⟩
  · cases c7

/-! (*curfew/deadline.Book).Advance -/
set_option maxRecDepth 20000 in
theorem bAdvance_c (b : Nat) (now last : Int) (X : List Thing) (L : List Res) (w : World) (hX : BookX b now last X L) (hO : (pack L).holds w) (to_ : Int) : Does Try.prog 31 #[.pointer (some ⟨b, 0, none⟩), .int .i64 to_] w (fun v w' => ∃ A' c', v = .tuple #[.slice A' (advF now to_ X).length c', .int .i64 (advE now to_)] ∧ ∃ L', BookX b (advN now to_) last (advX now to_ X) L' ∧ SH w (pack L).foot [vec A' c' 30 3 encThing (advF now to_ X), pack L'] w') := by
  refine does_enter2 Try.func31 rfl Try.ntmps31 rfl ?_
  have H := SH.own1 hO
  refine tr_seq (fun K1 hK1 => ?_)
  -- region 0: deadline.go:138
  refine tr_region ?_
  refine tr_val (ov_assign rfl rfl) rfl rfl rfl ?_
  refine tr_val (ov_assign rfl rfl) rfl rfl rfl ?_
  refine tr_nil (hK1 _ _ (TrC.keep [5, 4, 0, 1] ?_))
  show TrC _ _ _ _ [(5, _), (4, _), (0, _), (1, _)] _ _
  refine tr_seq (fun K2 hK2 => ?_)
  refine tr_seq (fun K3 hK3 => ?_)
  -- region 1: deadline.go:139
  refine tr_region ?_
  refine tr_val (ov_move rfl rfl) rfl rfl rfl ?_
  refine tr_call (bnone_c b now last X L _ hX H.get0) rfl rfl rfl Try.call71 rfl rfl rfl ?_
  rintro _ w1 ⟨rfl, HC⟩
  have H := H.call0n HC
  refine tr_nil (hK3 _ _ (TrC.keep [7, 5, 4, 0, 1] ?_))
  show TrC _ _ _ _ [(7, _), (5, _), (4, _), (0, _), (1, _)] _ _
  refine tr_condb rfl (fun c7 => ?_) (fun c7 => ?_)
  · cases c7
  · skip
    refine tr_skip (hK2 _ _ (TrC.keep [7, 5, 4, 0, 1] ?_))
    show TrC _ _ _ _ [(7, _), (5, _), (4, _), (0, _), (1, _)] _ _
    refine tr_seq (fun K4 hK4 => ?_)
    -- region 3: deadline.go:142
    obtain ⟨hla0, hla1, d, Lw, hW, rfl⟩ := hX
    have H := SH.unpackL [] H
    refine tr_region ?_
    refine tr_val (ov_move rfl rfl) rfl rfl rfl ?_
    refine tr_val (ov_nilCheck rfl rfl) rfl rfl rfl ?_
    refine tr_val (ov_fieldAddr rfl Try.underlying95 rfl (Try.sizeOf24 _) (by decide) rfl) rfl rfl rfl ?_
    refine tr_val (ov_load_blk H.get0 rfl (Try.isAgg24 _) rfl rfl rfl) rfl rfl rfl ?_
    refine tr_val (ov_move rfl rfl) rfl rfl rfl ?_
    refine tr_call (wAdvance_c d now X Lw _ hW H.get1 to_) rfl rfl rfl Try.call16 rfl rfl rfl ?_
    rintro _ w2 ⟨A1, c1, rfl, L1, hX1, HC⟩
    have H := H.top1.call1e HC
    refine tr_val (ov_extract rfl rfl rfl) rfl rfl rfl ?_
    refine tr_val (ov_extract rfl rfl rfl) rfl rfl rfl ?_
    refine tr_val (ov_assign rfl rfl) rfl rfl rfl ?_
    refine tr_val (ov_assign rfl rfl) rfl rfl rfl ?_
    refine tr_nil (hK4 _ _ (TrC.keep [5, 4, 7, 0] ?_))
    show TrC _ _ _ _ [(5, _), (4, _), (7, _), (0, _)] _ _
    refine tr_ret (post_ret2 (.inr rfl) rfl rfl rfl ?_)
    exact ⟨A1, c1, rfl, _, ⟨hla0, hla1, d, L1, hX1, rfl⟩, SH.packL [_] (L := [_, _]) (H.top2.top1 : SH _ _ ([_] ++ [_, _]) _)⟩

/-! (*curfew/deadline.Book).Advance -/
set_option maxRecDepth 20000 in
theorem bAdvance_n (p : Option Addr) (w : World) (hp : NoBook w p) (to_ : Int) : Does Try.prog 31 #[.pointer p, .int .i64 to_] w (fun v w' => v = .tuple #[.slice none 0 0, .int .i64 1] ∧ SH w noBlocks [] w') := by
  refine does_enter2 Try.func31 rfl Try.ntmps31 rfl ?_
  have H := SH.start w noBlocks
  refine tr_seq (fun K1 hK1 => ?_)
  -- region 0: deadline.go:138
  refine tr_region ?_
  refine tr_val (ov_assign rfl rfl) rfl rfl rfl ?_
  refine tr_val (ov_assign rfl rfl) rfl rfl rfl ?_
  refine tr_nil (hK1 _ _ (TrC.keep [5, 4, 0, 1] ?_))
  show TrC _ _ _ _ [(5, _), (4, _), (0, _), (1, _)] _ _
  refine tr_seq (fun K2 hK2 => ?_)
  refine tr_seq (fun K3 hK3 => ?_)
  -- region 1: deadline.go:139
  refine tr_region ?_
  refine tr_val (ov_move rfl rfl) rfl rfl rfl ?_
  refine tr_call (bnone_n p _ (hp.later H)) rfl rfl rfl Try.call71 rfl rfl rfl ?_
  rintro _ w1 ⟨rfl, HC⟩
  have H := H.call0n HC
  refine tr_nil (hK3 _ _ (TrC.keep [7, 5, 4, 0, 1] ?_))
  show TrC _ _ _ _ [(7, _), (5, _), (4, _), (0, _), (1, _)] _ _
  refine tr_condb rfl (fun c7 => ?_) (fun c7 => ?_)
  · skip
    refine tr_seq (fun K4 hK4 => ?_)
    -- region 2: deadline.go:140
    refine tr_region ?_
    refine tr_val (ov_assign rfl rfl) rfl rfl rfl ?_
    refine tr_val (ov_assign rfl rfl) rfl rfl rfl ?_
    refine tr_nil (hK4 _ _ (TrC.keep [5, 4, 7, 0, 1] ?_))
    show TrC _ _ _ _ [(5, _), (4, _), (7, _), (0, _), (1, _)] _ _
    refine tr_ret (post_ret2 (.inr rfl) rfl rfl rfl ?_)
    exact ⟨rfl, H⟩
  · cases c7

/-! (*curfew/deadline.Book).Set -/
set_option maxRecDepth 20000 in
theorem bSet_c (b : Nat) (now last : Int) (X : List Thing) (L : List Res) (w : World) (hX : BookX b now last X L) (hO : (pack L).holds w) (id due : Int) : Does Try.prog 32 #[.pointer (some ⟨b, 0, none⟩), .int .u64 id, .int .i64 due] w (fun v w' => v = .tuple #[.int .u64 (setR last X id due), .int .i64 (setE last X id due)] ∧ ∃ L', BookX b now (setN last X id due) (setX last X id due) L' ∧ SH w (pack L).foot [pack L'] w') := by
  refine does_enter3 Try.func32 rfl Try.ntmps32 rfl ?_
  have H := SH.own1 hO
  refine tr_seq (fun K1 hK1 => ?_)
  -- region 0: deadline.go:120
  refine tr_region ?_
  refine tr_val (ov_assign rfl rfl) rfl rfl rfl ?_
  refine tr_val (ov_assign rfl rfl) rfl rfl rfl ?_
  refine tr_nil (hK1 _ _ (TrC.keep [7, 6, 0, 1, 2] ?_))
  show TrC _ _ _ _ [(7, _), (6, _), (0, _), (1, _), (2, _)] _ _
  refine tr_seq (fun K2 hK2 => ?_)
  refine tr_block ?_
  refine tr_seq (fun K3 hK3 => ?_)
  -- region 1: deadline.go:122
  refine tr_region ?_
  refine tr_val (ov_move rfl rfl) rfl rfl rfl ?_
  refine tr_call (bnone_c b now last X L _ hX H.get0) rfl rfl rfl Try.call71 rfl rfl rfl ?_
  rintro _ w1 ⟨rfl, HC⟩
  have H := H.call0n HC
  refine tr_val (ov_assign rfl rfl) rfl rfl rfl ?_
  refine tr_nil (hK3 _ _ (TrC.keep [10, 7, 6, 0, 1, 2] ?_))
  show TrC _ _ _ _ [(10, _), (7, _), (6, _), (0, _), (1, _), (2, _)] _ _
  refine tr_condb rfl (fun c10 => ?_) (fun c10 => ?_)
  · cases c10
  · skip
    refine tr_seq (fun K4 hK4 => ?_)
    -- region 3: deadline.go:124
    refine tr_region ?_
    refine tr_val (ov_move rfl rfl) rfl rfl rfl ?_
    refine tr_call (instD_c due _) rfl rfl rfl Try.call72 rfl rfl rfl ?_
    rintro _ w2 ⟨rfl, HC⟩
    have H := H.call0n HC
    refine tr_val (ov_not rfl rfl) rfl rfl rfl ?_
    refine tr_val (ov_assign rfl rfl) rfl rfl rfl ?_
    refine tr_nil (hK4 _ _ (TrC.keep [13, 10, 7, 6, 0, 1, 2] ?_))
    show TrC _ _ _ _ [(13, _), (10, _), (7, _), (6, _), (0, _), (1, _), (2, _)] _ _
    refine tr_cond rfl (fun c13 => ?_) (fun c13 => ?_)
    · skip
      refine tr_seq (fun K5 hK5 => ?_)
      -- region 4: deadline.go:125
      refine tr_region ?_
      refine tr_val (ov_assign rfl rfl) rfl rfl rfl ?_
      refine tr_val (ov_assign rfl rfl) rfl rfl rfl ?_
      refine tr_nil (hK5 _ _ (TrC.keep [7, 6, 13, 10, 0, 1, 2] ?_))
      show TrC _ _ _ _ [(7, _), (6, _), (13, _), (10, _), (0, _), (1, _), (2, _)] _ _
      refine tr_ret (post_ret2 (.inr rfl) rfl rfl rfl ?_)
      (have he : setE last X id due = 2 := (by unfold setE; rw [if_pos (by omega)]); unfold setR setN setX; rw [he, if_neg (by decide), if_neg (by decide), if_neg (by decide)]; exact ⟨rfl, L, hX, H⟩)
    · skip
      refine tr_seq (fun K6 hK6 => ?_)
      -- region 5: deadline.go:126
      have hX0 := hX
      obtain ⟨hla0, hla1, d, Lw, hW, rfl⟩ := hX
      have H := SH.unpackL [] H
      have hids : Ids X ∧ X.length ≤ 256 := by obtain ⟨Rs, Fv, hW', _⟩ := hW; exact ⟨hW'.ids, hW'.few⟩
      refine tr_region ?_
      refine tr_val (ov_move rfl rfl) rfl rfl rfl ?_
      refine tr_val (ov_nilCheck rfl rfl) rfl rfl rfl ?_
      refine tr_val (ov_fieldAddr rfl Try.underlying95 rfl (Try.sizeOf28 _) (by decide) rfl) rfl rfl rfl ?_
      refine tr_val (ov_load_blk H.get0 rfl (Try.isAgg28 _) rfl rfl rfl) rfl rfl rfl ?_
      refine tr_val (ov_geq rfl rfl rfl) rfl rfl rfl ?_
      refine tr_val (ov_assign rfl rfl) rfl rfl rfl ?_
      refine tr_nil (hK6 _ _ (TrC.keep [17, 13, 10, 7, 6, 0, 1, 2] ?_))
      show TrC _ _ _ _ [(17, _), (13, _), (10, _), (7, _), (6, _), (0, _), (1, _), (2, _)] _ _
      refine tr_cond rfl (fun c17 => ?_) (fun c17 => ?_)
      · skip
        refine tr_seq (fun K7 hK7 => ?_)
        -- region 6: deadline.go:127
        refine tr_region ?_
        refine tr_val (ov_assign rfl rfl) rfl rfl rfl ?_
        refine tr_val (ov_assign rfl rfl) rfl rfl rfl ?_
        refine tr_nil (hK7 _ _ (TrC.keep [7, 6, 17, 13, 10, 0, 1, 2] ?_))
        show TrC _ _ _ _ [(7, _), (6, _), (17, _), (13, _), (10, _), (0, _), (1, _), (2, _)] _ _
        refine tr_ret (post_ret2 (.inr rfl) rfl rfl rfl ?_)
        (have he : setE last X id due = 10 := (by unfold setE; rw [if_neg (by omega), if_pos (by omega)]); unfold setR setN setX; rw [he, if_neg (by decide), if_neg (by decide), if_neg (by decide)]; exact ⟨rfl, _, hX0, SH.pack1 H⟩)
      · skip
        refine tr_skip (hK2 _ _ (TrC.keep [17, 13, 10, 7, 6, 0, 1, 2] ?_))
        show TrC _ _ _ _ [(17, _), (13, _), (10, _), (7, _), (6, _), (0, _), (1, _), (2, _)] _ _
        refine tr_seq (fun K8 hK8 => ?_)
        refine tr_seq (fun K9 hK9 => ?_)
        -- region 7: deadline.go:129
        refine tr_region ?_
        refine tr_val (ov_move rfl rfl) rfl rfl rfl ?_
        refine tr_val (ov_move rfl rfl) rfl rfl rfl ?_
        refine tr_call (bGet_c b now last X _ _ hX0 (SH.pack1 H).get0 id) rfl rfl rfl Try.call41 rfl rfl rfl ?_
        rintro _ w3 ⟨rfl, HC⟩
        have H := H.call0n HC
        refine tr_val (ov_move rfl rfl) rfl rfl rfl ?_
        refine tr_val (ov_extract rfl rfl rfl) rfl rfl rfl ?_
        refine tr_val (ov_extract rfl rfl rfl) rfl rfl rfl ?_
        refine tr_alloc H rfl (Try.zeroValue30 _) rfl rfl rfl rfl ?_
        intro b8 w4 hb8 H
        (refine tr_storeW H.get0 rfl (Try.sizeOf30 _) rfl rfl rfl rfl rfl rfl rfl rfl ?_; intro w5 U; have H := H.upd0 U; clear U)
        refine tr_val (ov_assign rfl rfl) rfl rfl rfl ?_
        refine tr_nil (hK9 _ _ (TrC.keep [9, 8, 17, 13, 10, 7, 6, 0, 1, 2] ?_))
        show TrC _ _ _ _ [(9, _), (8, _), (17, _), (13, _), (10, _), (7, _), (6, _), (0, _), (1, _), (2, _)] _ _
        refine tr_seq (fun K10 hK10 => ?_)
        -- region 8: deadline.go:129
        refine tr_region ?_
        refine tr_val (ov_move rfl rfl) rfl rfl rfl ?_
        refine tr_val (ov_notb rfl rfl) rfl rfl rfl ?_
        refine tr_val (ov_move rfl rfl) rfl rfl rfl ?_
        refine tr_splitb (t := 31) rfl (fun s31 => ?_) (fun s31 => ?_)
        · skip
          refine tr_val (ov_move rfl rfl) rfl rfl rfl ?_
          refine tr_val (ov_nilCheck rfl rfl) rfl rfl rfl ?_
          refine tr_val (ov_fieldAddr rfl Try.underlying95 rfl (Try.sizeOf24 _) (by decide) rfl) rfl rfl rfl ?_
          refine tr_val (ov_load_blk H.get1 rfl (Try.isAgg24 _) rfl rfl rfl) rfl rfl rfl ?_
          refine tr_call (wLen_c d now X Lw _ hW H.get2) rfl rfl rfl Try.call20 rfl rfl rfl ?_
          rintro _ w6 ⟨rfl, HC⟩
          have H := H.call0n HC
          refine tr_val (ov_geq rfl rfl rfl) rfl rfl rfl ?_
          refine tr_val (ov_pick (vb := undef) rfl rfl rfl rfl) rfl rfl rfl ?_
          refine tr_nil (hK10 _ _ (TrC.keep [38, 9, 8, 17, 13, 10, 7, 6, 0, 1, 2] ?_))
          show TrC _ _ _ _ [(38, _), (9, _), (8, _), (17, _), (13, _), (10, _), (7, _), (6, _), (0, _), (1, _), (2, _)] _ _
          refine tr_cond rfl (fun c38 => ?_) (fun c38 => ?_)
          · skip
            refine tr_seq (fun K11 hK11 => ?_)
            -- region 9: deadline.go:130
            refine tr_region ?_
            refine tr_val (ov_assign rfl rfl) rfl rfl rfl ?_
            refine tr_val (ov_assign rfl rfl) rfl rfl rfl ?_
            refine tr_nil (hK11 _ _ (TrC.keep [7, 6, 38, 9, 8, 17, 13, 10, 0, 1, 2] ?_))
            show TrC _ _ _ _ [(7, _), (6, _), (38, _), (9, _), (8, _), (17, _), (13, _), (10, _), (0, _), (1, _), (2, _)] _ _
            refine tr_ret (post_ret2 (.inr rfl) rfl rfl rfl ?_)
            (have he : setE last X id due = 30 := (by unfold setE; rw [if_neg (by omega), if_neg (by omega), if_pos ⟨by (cases h : (findT id X).isSome <;> simp_all), by omega⟩]); unfold setR setN setX; rw [he, if_neg (by decide), if_neg (by decide), if_neg (by decide)]; exact ⟨rfl, _, hX0, SH.pack1 H.drop0⟩)
          · skip
            refine tr_skip (hK8 _ _ (TrC.keep [38, 9, 8, 17, 13, 10, 7, 6, 0, 1, 2] ?_))
            show TrC _ _ _ _ [(38, _), (9, _), (8, _), (17, _), (13, _), (10, _), (7, _), (6, _), (0, _), (1, _), (2, _)] _ _
            refine tr_seq (fun K12 hK12 => ?_)
            -- region 10: deadline.go:132
            have hfull : ¬ ((findT id X).isSome = false ∧ 256 ≤ X.length) := (by intro q; (have := q.2; omega))
            refine tr_region ?_
            refine tr_val (ov_move rfl rfl) rfl rfl rfl ?_
            refine tr_val (ov_nilCheck rfl rfl) rfl rfl rfl ?_
            refine tr_val (ov_fieldAddr rfl Try.underlying95 rfl (Try.sizeOf24 _) (by decide) rfl) rfl rfl rfl ?_
            refine tr_val (ov_load_blk H.get1 rfl (Try.isAgg24 _) rfl rfl rfl) rfl rfl rfl ?_
            refine tr_val (ov_move rfl rfl) rfl rfl rfl ?_
            refine tr_call (wCancel_c d now X Lw _ hW H.get2 id) rfl rfl rfl Try.call21 rfl rfl rfl ?_
            rintro _ w7 ⟨rfl, L1, hX1, HC⟩
            have H := H.top2.call1 HC
            refine tr_nil (hK12 _ _ (TrC.keep [38, 9, 8, 17, 13, 10, 7, 6, 0, 1, 2] ?_))
            show TrC _ _ _ _ [(38, _), (9, _), (8, _), (17, _), (13, _), (10, _), (7, _), (6, _), (0, _), (1, _), (2, _)] _ _
            refine tr_seq (fun K13 hK13 => ?_)
            -- region 11: deadline.go:133
            refine tr_region ?_
            refine tr_val (ov_move rfl rfl) rfl rfl rfl ?_
            refine tr_val (ov_nilCheck rfl rfl) rfl rfl rfl ?_
            refine tr_val (ov_fieldAddr rfl Try.underlying95 rfl (Try.sizeOf28 _) (by decide) rfl) rfl rfl rfl ?_
            refine tr_val (ov_load_blk H.get2 rfl (Try.isAgg28 _) rfl rfl rfl) rfl rfl rfl ?_
            refine tr_val (ov_add rfl rfl rfl (wu64 (by omega))) rfl rfl rfl ?_
            refine tr_val (ov_nilCheck rfl rfl) rfl rfl rfl ?_
            refine tr_val (ov_fieldAddr rfl Try.underlying95 rfl (Try.sizeOf28 _) (by decide) rfl) rfl rfl rfl ?_
            (refine tr_store H.get2 rfl (Try.sizeOf28 _) rfl rfl rfl rfl rfl rfl rfl ?_; intro w8 U; have H := H.upd2 U; clear U)
            try simp only [List.set_cons_zero, List.set_cons_succ, Nat.zero_add] at H
            refine tr_nil (hK13 _ _ (TrC.keep [38, 9, 8, 17, 13, 10, 7, 6, 0, 1, 2] ?_))
            show TrC _ _ _ _ [(38, _), (9, _), (8, _), (17, _), (13, _), (10, _), (7, _), (6, _), (0, _), (1, _), (2, _)] _ _
            refine tr_seq (fun K14 hK14 => ?_)
            -- region 12: deadline.go:134
            refine tr_held (fun w' => (blk b 95 [.pointer (some ⟨d, 0, none⟩), .int .u64 (last + 1)]).holds w') mixed rfl H ?_
            intro w9 H
            refine th_take 0 rfl (by kernel_rfl) (by kernel_rfl) (by kernel_rfl) (H.get2) (fun _ hS => ov_move rfl rfl) rfl rfl rfl ?_
            refine th_take 1 rfl (by kernel_rfl) (by kernel_rfl) (by kernel_rfl) (H.get2) (fun _ hS => ov_nilCheck rfl rfl) rfl rfl rfl ?_
            refine th_take 2 rfl (by kernel_rfl) (by kernel_rfl) (by kernel_rfl) (H.get2) (fun _ hS => ov_fieldAddr rfl Try.underlying95 rfl (Try.sizeOf28 _) (by decide) rfl) rfl rfl rfl ?_
            refine th_take 3 rfl (by kernel_rfl) (by kernel_rfl) (by kernel_rfl) (H.get2) (fun _ hS => ov_load_blk hS rfl (Try.isAgg28 _) rfl rfl rfl) rfl rfl rfl ?_
            refine th_take 4 rfl (by kernel_rfl) (by kernel_rfl) (by kernel_rfl) (H.get2) (fun _ hS => ov_move rfl rfl) rfl rfl rfl ?_
            refine th_take 5 rfl (by kernel_rfl) (by kernel_rfl) (by kernel_rfl) (H.get2) (fun _ hS => ov_nilCheck rfl rfl) rfl rfl rfl ?_
            refine th_take 6 rfl (by kernel_rfl) (by kernel_rfl) (by kernel_rfl) (H.get2) (fun _ hS => ov_fieldAddr rfl Try.underlying95 rfl (Try.sizeOf24 _) (by decide) rfl) rfl rfl rfl ?_
            refine th_take 7 rfl (by kernel_rfl) (by kernel_rfl) (by kernel_rfl) (H.get2) (fun _ hS => ov_load_blk hS rfl (Try.isAgg24 _) rfl rfl rfl) rfl rfl rfl ?_
            refine th_take 8 rfl (by kernel_rfl) (by kernel_rfl) (by kernel_rfl) (H.get2) (fun _ hS => ov_move rfl rfl) rfl rfl rfl ?_
            refine th_take 9 rfl (by kernel_rfl) (by kernel_rfl) (by kernel_rfl) (H.get2) (fun _ hS => ov_move rfl rfl) rfl rfl rfl ?_
            refine th_take 10 rfl (by kernel_rfl) (by kernel_rfl) (by kernel_rfl) (H.get2) (fun _ hS => ov_nilCheck rfl rfl) rfl rfl rfl ?_
            refine th_take 11 rfl (by kernel_rfl) (by kernel_rfl) (by kernel_rfl) (H.get2) (fun _ hS => ov_fieldAddr rfl Try.underlying95 rfl (Try.sizeOf28 _) (by decide) rfl) rfl rfl rfl ?_
            refine th_take 12 rfl (by kernel_rfl) (by kernel_rfl) (by kernel_rfl) (H.get2) (fun _ hS => ov_load_blk hS rfl (Try.isAgg28 _) rfl rfl rfl) rfl rfl rfl ?_
            refine th_take 13 rfl (by kernel_rfl) (by kernel_rfl) (by kernel_rfl) (H.get2) (fun _ hS => ov_move rfl rfl) rfl rfl rfl ?_
            refine th_take 14 rfl (by kernel_rfl) (by kernel_rfl) (by kernel_rfl) (H.get2) (fun _ hS => ov_build rfl (fun ρ k => bs3 k rfl rfl rfl) (bld30_0_1_2 _ _ _ _)) rfl rfl rfl ?_
            refine th_one 15 (by kernel_rfl) ?_
            refine tw_call (wArm_c d now (dropT id X) L1 _ hX1 H.get0 ⟨id, last + 1, due⟩) rfl rfl rfl rfl Try.call15 rfl rfl rfl ?_
            rintro _ w10 ⟨rfl, L2, hX2, HC⟩
            have H := H.call1 HC
            rw [set_arm hids.1 hids.2 (by omega) hfull] at hX2 ⊢
            refine ⟨H.get2, ?_⟩
            refine th_take 16 rfl (by kernel_rfl) (by kernel_rfl) (by kernel_rfl) (H.get2) (fun _ hS => ov_assign rfl rfl) rfl rfl rfl ?_
            refine th_take 17 rfl (by kernel_rfl) (by kernel_rfl) (by kernel_rfl) (H.get2) (fun _ hS => ov_assign rfl rfl) rfl rfl rfl ?_
            refine th_done (by kernel_rfl) ?_
            refine hK14 _ _ (TrC.keep [7, 6, 38, 9, 8, 17, 13, 10, 0, 1, 2] ?_)
            show TrC _ _ _ _ [(7, _), (6, _), (38, _), (9, _), (8, _), (17, _), (13, _), (10, _), (0, _), (1, _), (2, _)] _ _
            refine tr_ret (post_ret2 (.inr rfl) rfl rfl rfl ?_)
            (have he : setE last X id due = 0 := (by unfold setE; rw [if_neg (by omega), if_neg (by omega), if_neg hfull]); unfold setR setN setX; rw [he, if_pos rfl, if_pos rfl, if_pos rfl]; exact ⟨rfl, _, ⟨by omega, by omega, d, L2, hX2, rfl⟩, SH.pack1 H.drop1.top1⟩)
        · skip
          refine tr_pass rfl rfl rfl ?_
          refine tr_pass rfl rfl rfl ?_
          refine tr_pass rfl rfl rfl ?_
          refine tr_pass rfl rfl rfl ?_
          refine tr_pass rfl rfl rfl ?_
          refine tr_pass rfl rfl rfl ?_
          refine tr_val (ov_pick_f (va := undef) rfl rfl rfl rfl) rfl rfl rfl ?_
          refine tr_nil (hK10 _ _ (TrC.keep [38, 9, 8, 17, 13, 10, 7, 6, 0, 1, 2] ?_))
          show TrC _ _ _ _ [(38, _), (9, _), (8, _), (17, _), (13, _), (10, _), (7, _), (6, _), (0, _), (1, _), (2, _)] _ _
          refine tr_cond_f rfl rfl ?_
          refine tr_skip (hK8 _ _ (TrC.keep [38, 9, 8, 17, 13, 10, 7, 6, 0, 1, 2] ?_))
          show TrC _ _ _ _ [(38, _), (9, _), (8, _), (17, _), (13, _), (10, _), (7, _), (6, _), (0, _), (1, _), (2, _)] _ _
          refine tr_seq (fun K15 hK15 => ?_)
          -- region 10: deadline.go:132
          have hfull : ¬ ((findT id X).isSome = false ∧ 256 ≤ X.length) := (by intro q; (rw [q.1] at s31; cases s31))
          refine tr_region ?_
          refine tr_val (ov_move rfl rfl) rfl rfl rfl ?_
          refine tr_val (ov_nilCheck rfl rfl) rfl rfl rfl ?_
          refine tr_val (ov_fieldAddr rfl Try.underlying95 rfl (Try.sizeOf24 _) (by decide) rfl) rfl rfl rfl ?_
          refine tr_val (ov_load_blk H.get1 rfl (Try.isAgg24 _) rfl rfl rfl) rfl rfl rfl ?_
          refine tr_val (ov_move rfl rfl) rfl rfl rfl ?_
          refine tr_call (wCancel_c d now X Lw _ hW H.get2 id) rfl rfl rfl Try.call21 rfl rfl rfl ?_
          rintro _ w11 ⟨rfl, L1, hX1, HC⟩
          have H := H.top2.call1 HC
          refine tr_nil (hK15 _ _ (TrC.keep [38, 9, 8, 17, 13, 10, 7, 6, 0, 1, 2] ?_))
          show TrC _ _ _ _ [(38, _), (9, _), (8, _), (17, _), (13, _), (10, _), (7, _), (6, _), (0, _), (1, _), (2, _)] _ _
          refine tr_seq (fun K16 hK16 => ?_)
          -- region 11: deadline.go:133
          refine tr_region ?_
          refine tr_val (ov_move rfl rfl) rfl rfl rfl ?_
          refine tr_val (ov_nilCheck rfl rfl) rfl rfl rfl ?_
          refine tr_val (ov_fieldAddr rfl Try.underlying95 rfl (Try.sizeOf28 _) (by decide) rfl) rfl rfl rfl ?_
          refine tr_val (ov_load_blk H.get2 rfl (Try.isAgg28 _) rfl rfl rfl) rfl rfl rfl ?_
          refine tr_val (ov_add rfl rfl rfl (wu64 (by omega))) rfl rfl rfl ?_
          refine tr_val (ov_nilCheck rfl rfl) rfl rfl rfl ?_
          refine tr_val (ov_fieldAddr rfl Try.underlying95 rfl (Try.sizeOf28 _) (by decide) rfl) rfl rfl rfl ?_
          (refine tr_store H.get2 rfl (Try.sizeOf28 _) rfl rfl rfl rfl rfl rfl rfl ?_; intro w12 U; have H := H.upd2 U; clear U)
          try simp only [List.set_cons_zero, List.set_cons_succ, Nat.zero_add] at H
          refine tr_nil (hK16 _ _ (TrC.keep [38, 9, 8, 17, 13, 10, 7, 6, 0, 1, 2] ?_))
          show TrC _ _ _ _ [(38, _), (9, _), (8, _), (17, _), (13, _), (10, _), (7, _), (6, _), (0, _), (1, _), (2, _)] _ _
          refine tr_seq (fun K17 hK17 => ?_)
          -- region 12: deadline.go:134
          refine tr_held (fun w' => (blk b 95 [.pointer (some ⟨d, 0, none⟩), .int .u64 (last + 1)]).holds w') mixed rfl H ?_
          intro w13 H
          refine th_take 0 rfl (by kernel_rfl) (by kernel_rfl) (by kernel_rfl) (H.get2) (fun _ hS => ov_move rfl rfl) rfl rfl rfl ?_
          refine th_take 1 rfl (by kernel_rfl) (by kernel_rfl) (by kernel_rfl) (H.get2) (fun _ hS => ov_nilCheck rfl rfl) rfl rfl rfl ?_
          refine th_take 2 rfl (by kernel_rfl) (by kernel_rfl) (by kernel_rfl) (H.get2) (fun _ hS => ov_fieldAddr rfl Try.underlying95 rfl (Try.sizeOf28 _) (by decide) rfl) rfl rfl rfl ?_
          refine th_take 3 rfl (by kernel_rfl) (by kernel_rfl) (by kernel_rfl) (H.get2) (fun _ hS => ov_load_blk hS rfl (Try.isAgg28 _) rfl rfl rfl) rfl rfl rfl ?_
          refine th_take 4 rfl (by kernel_rfl) (by kernel_rfl) (by kernel_rfl) (H.get2) (fun _ hS => ov_move rfl rfl) rfl rfl rfl ?_
          refine th_take 5 rfl (by kernel_rfl) (by kernel_rfl) (by kernel_rfl) (H.get2) (fun _ hS => ov_nilCheck rfl rfl) rfl rfl rfl ?_
          refine th_take 6 rfl (by kernel_rfl) (by kernel_rfl) (by kernel_rfl) (H.get2) (fun _ hS => ov_fieldAddr rfl Try.underlying95 rfl (Try.sizeOf24 _) (by decide) rfl) rfl rfl rfl ?_
          refine th_take 7 rfl (by kernel_rfl) (by kernel_rfl) (by kernel_rfl) (H.get2) (fun _ hS => ov_load_blk hS rfl (Try.isAgg24 _) rfl rfl rfl) rfl rfl rfl ?_
          refine th_take 8 rfl (by kernel_rfl) (by kernel_rfl) (by kernel_rfl) (H.get2) (fun _ hS => ov_move rfl rfl) rfl rfl rfl ?_
          refine th_take 9 rfl (by kernel_rfl) (by kernel_rfl) (by kernel_rfl) (H.get2) (fun _ hS => ov_move rfl rfl) rfl rfl rfl ?_
          refine th_take 10 rfl (by kernel_rfl) (by kernel_rfl) (by kernel_rfl) (H.get2) (fun _ hS => ov_nilCheck rfl rfl) rfl rfl rfl ?_
          refine th_take 11 rfl (by kernel_rfl) (by kernel_rfl) (by kernel_rfl) (H.get2) (fun _ hS => ov_fieldAddr rfl Try.underlying95 rfl (Try.sizeOf28 _) (by decide) rfl) rfl rfl rfl ?_
          refine th_take 12 rfl (by kernel_rfl) (by kernel_rfl) (by kernel_rfl) (H.get2) (fun _ hS => ov_load_blk hS rfl (Try.isAgg28 _) rfl rfl rfl) rfl rfl rfl ?_
          refine th_take 13 rfl (by kernel_rfl) (by kernel_rfl) (by kernel_rfl) (H.get2) (fun _ hS => ov_move rfl rfl) rfl rfl rfl ?_
          refine th_take 14 rfl (by kernel_rfl) (by kernel_rfl) (by kernel_rfl) (H.get2) (fun _ hS => ov_build rfl (fun ρ k => bs3 k rfl rfl rfl) (bld30_0_1_2 _ _ _ _)) rfl rfl rfl ?_
          refine th_one 15 (by kernel_rfl) ?_
          refine tw_call (wArm_c d now (dropT id X) L1 _ hX1 H.get0 ⟨id, last + 1, due⟩) rfl rfl rfl rfl Try.call15 rfl rfl rfl ?_
          rintro _ w14 ⟨rfl, L2, hX2, HC⟩
          have H := H.call1 HC
          rw [set_arm hids.1 hids.2 (by omega) hfull] at hX2 ⊢
          refine ⟨H.get2, ?_⟩
          refine th_take 16 rfl (by kernel_rfl) (by kernel_rfl) (by kernel_rfl) (H.get2) (fun _ hS => ov_assign rfl rfl) rfl rfl rfl ?_
          refine th_take 17 rfl (by kernel_rfl) (by kernel_rfl) (by kernel_rfl) (H.get2) (fun _ hS => ov_assign rfl rfl) rfl rfl rfl ?_
          refine th_done (by kernel_rfl) ?_
          refine hK17 _ _ (TrC.keep [7, 6, 38, 9, 8, 17, 13, 10, 0, 1, 2] ?_)
          show TrC _ _ _ _ [(7, _), (6, _), (38, _), (9, _), (8, _), (17, _), (13, _), (10, _), (0, _), (1, _), (2, _)] _ _
          refine tr_ret (post_ret2 (.inr rfl) rfl rfl rfl ?_)
          (have he : setE last X id due = 0 := (by unfold setE; rw [if_neg (by omega), if_neg (by omega), if_neg hfull]); unfold setR setN setX; rw [he, if_pos rfl, if_pos rfl, if_pos rfl]; exact ⟨rfl, _, ⟨by omega, by omega, d, L2, hX2, rfl⟩, SH.pack1 H.drop1.top1⟩)

/-! (*curfew/deadline.Book).State -/
set_option maxRecDepth 20000 in
theorem bState_c (b : Nat) (now last : Int) (X : List Thing) (L : List Res) (w : World) (hX : BookX b now last X L) (hO : (pack L).holds w) : Does Try.prog 33 #[.pointer (some ⟨b, 0, none⟩)] w (fun v w' => ∃ A' c', v = .agg #[.int .i64 now, .int .u64 last, .slice A' ((sortT X)).length c'] ∧ SH w noBlocks [vec A' c' 30 3 encThing (sortT X)] w') := by
  have hX0 := hX
  obtain ⟨hla0, hla1, d, Lw, hW, rfl⟩ := hX
  have hb : (blk b 95 [.pointer (some ⟨d, 0, none⟩), .int .u64 last]).holds w := pack_hold hO (by simp)
  have hw : (pack Lw).holds w := pack_hold hO (by simp)
  refine does_enter1 Try.func33 rfl Try.ntmps33 rfl ?_
  have H := SH.start w noBlocks
  refine tr_seq (fun K1 hK1 => ?_)
  -- region 0: deadline.go:87
  refine tr_region ?_
  refine tr_alloc H rfl (Try.zeroValue78 _) rfl rfl rfl rfl ?_
  intro b1 w1 hb1 H
  refine tr_nil (hK1 _ _ (TrC.keep [2, 0] ?_))
  show TrC _ _ _ _ [(2, _), (0, _)] _ _
  refine tr_seq (fun K2 hK2 => ?_)
  refine tr_seq (fun K3 hK3 => ?_)
  -- region 1: deadline.go:88
  refine tr_region ?_
  refine tr_val (ov_move rfl rfl) rfl rfl rfl ?_
  refine tr_call (bnone_c b now last X _ _ hX0 (H.res0 hO)) rfl rfl rfl Try.call71 rfl rfl rfl ?_
  rintro _ w2 ⟨rfl, HC⟩
  have H := H.call0n HC
  refine tr_nil (hK3 _ _ (TrC.keep [4, 2, 0] ?_))
  show TrC _ _ _ _ [(4, _), (2, _), (0, _)] _ _
  refine tr_condb rfl (fun c4 => ?_) (fun c4 => ?_)
  · cases c4
  · skip
    refine tr_skip (hK2 _ _ (TrC.keep [4, 2, 0] ?_))
    show TrC _ _ _ _ [(4, _), (2, _), (0, _)] _ _
    refine tr_seq (fun K4 hK4 => ?_)
    -- region 3: deadline.go:91
    refine tr_held (fun w' => (blk b 95 [.pointer (some ⟨d, 0, none⟩), .int .u64 last]).holds w') mixed rfl H ?_
    intro w3 H
    refine th_take 0 rfl (by kernel_rfl) (by kernel_rfl) (by kernel_rfl) (H.res0 hb) (fun _ hS => ov_move rfl rfl) rfl rfl rfl ?_
    refine th_take 1 rfl (by kernel_rfl) (by kernel_rfl) (by kernel_rfl) (H.res0 hb) (fun _ hS => ov_nilCheck rfl rfl) rfl rfl rfl ?_
    refine th_take 2 rfl (by kernel_rfl) (by kernel_rfl) (by kernel_rfl) (H.res0 hb) (fun _ hS => ov_fieldAddr rfl Try.underlying95 rfl (Try.sizeOf24 _) (by decide) rfl) rfl rfl rfl ?_
    refine th_take 3 rfl (by kernel_rfl) (by kernel_rfl) (by kernel_rfl) (H.res0 hb) (fun _ hS => ov_load_blk hS rfl (Try.isAgg24 _) rfl rfl rfl) rfl rfl rfl ?_
    refine th_take 5 rfl (by kernel_rfl) (by kernel_rfl) (by kernel_rfl) (H.res0 hb) (fun _ hS => ov_move rfl rfl) rfl rfl rfl ?_
    refine th_take 6 rfl (by kernel_rfl) (by kernel_rfl) (by kernel_rfl) (H.res0 hb) (fun _ hS => ov_nilCheck rfl rfl) rfl rfl rfl ?_
    refine th_take 7 rfl (by kernel_rfl) (by kernel_rfl) (by kernel_rfl) (H.res0 hb) (fun _ hS => ov_fieldAddr rfl Try.underlying95 rfl (Try.sizeOf28 _) (by decide) rfl) rfl rfl rfl ?_
    refine th_take 8 rfl (by kernel_rfl) (by kernel_rfl) (by kernel_rfl) (H.res0 hb) (fun _ hS => ov_load_blk hS rfl (Try.isAgg28 _) rfl rfl rfl) rfl rfl rfl ?_
    refine th_take 9 rfl (by kernel_rfl) (by kernel_rfl) (by kernel_rfl) (H.res0 hb) (fun _ hS => ov_move rfl rfl) rfl rfl rfl ?_
    refine th_take 10 rfl (by kernel_rfl) (by kernel_rfl) (by kernel_rfl) (H.res0 hb) (fun _ hS => ov_nilCheck rfl rfl) rfl rfl rfl ?_
    refine th_take 11 rfl (by kernel_rfl) (by kernel_rfl) (by kernel_rfl) (H.res0 hb) (fun _ hS => ov_fieldAddr rfl Try.underlying95 rfl (Try.sizeOf24 _) (by decide) rfl) rfl rfl rfl ?_
    refine th_take 12 rfl (by kernel_rfl) (by kernel_rfl) (by kernel_rfl) (H.res0 hb) (fun _ hS => ov_load_blk hS rfl (Try.isAgg24 _) rfl rfl rfl) rfl rfl rfl ?_
    refine th_one 4 (by kernel_rfl) ?_
    refine tw_call (wNowX d now X Lw _ hW (H.res0 hw)) rfl rfl rfl rfl Try.call23 rfl rfl rfl ?_
    rintro _ w4 ⟨rfl, HC⟩
    have H := H.call0n HC
    refine ⟨H.res0 hb, ?_⟩
    refine th_one 13 (by kernel_rfl) ?_
    refine tw_call (wAll_c d now X Lw _ hW (H.res0 hw)) rfl rfl rfl rfl Try.call18 rfl rfl rfl ?_
    rintro _ w5 ⟨A1, c1, rfl, HC⟩
    have H := H.call0r HC
    refine ⟨H.res0 hb, ?_⟩
    refine th_take 14 rfl (by kernel_rfl) (by kernel_rfl) (by kernel_rfl) (H.res0 hb) (fun _ hS => ov_build rfl (fun ρ k => bs3 k rfl rfl rfl) (bld78_0_1_2 _ _ _ _ _ _)) rfl rfl rfl ?_
    refine th_one 15 (by kernel_rfl) ?_
    (refine tw_storeW H.get1 rfl rfl (Try.sizeOf78 _) rfl rfl rfl rfl rfl rfl rfl rfl ?_; intro w6 U; have H := H.upd1 U; clear U)
    refine ⟨H.res0 hb, ?_⟩
    refine th_done (by kernel_rfl) ?_
    refine hK4 _ _ (TrC.keep [4, 2, 0] ?_)
    show TrC _ _ _ _ [(4, _), (2, _), (0, _)] _ _
    refine tr_ret (post_ret1 (.inr rfl) rfl (by exact ⟨_, rfl, res_blkN H.get1 (Try.isAgg78 _) (Try.sizeOf78 _) rfl rfl⟩) ?_)
    exact ⟨A1, c1, rfl, H.drop1⟩

/-! (*curfew/deadline.Book).State -/
set_option maxRecDepth 20000 in
theorem bState_n (p : Option Addr) (w : World) (hp : NoBook w p) : Does Try.prog 33 #[.pointer p] w (fun v w' => v = .agg #[.int .i64 0, .int .u64 0, .slice none 0 0] ∧ SH w noBlocks [] w') := by
  refine does_enter1 Try.func33 rfl Try.ntmps33 rfl ?_
  have H := SH.start w noBlocks
  refine tr_seq (fun K1 hK1 => ?_)
  -- region 0: deadline.go:87
  refine tr_region ?_
  refine tr_alloc H rfl (Try.zeroValue78 _) rfl rfl rfl rfl ?_
  intro b1 w1 hb1 H
  refine tr_nil (hK1 _ _ (TrC.keep [2, 0] ?_))
  show TrC _ _ _ _ [(2, _), (0, _)] _ _
  refine tr_seq (fun K2 hK2 => ?_)
  refine tr_seq (fun K3 hK3 => ?_)
  -- region 1: deadline.go:88
  refine tr_region ?_
  refine tr_val (ov_move rfl rfl) rfl rfl rfl ?_
  refine tr_call (bnone_n p _ (hp.later H)) rfl rfl rfl Try.call71 rfl rfl rfl ?_
  rintro _ w2 ⟨rfl, HC⟩
  have H := H.call0n HC
  refine tr_nil (hK3 _ _ (TrC.keep [4, 2, 0] ?_))
  show TrC _ _ _ _ [(4, _), (2, _), (0, _)] _ _
  refine tr_condb rfl (fun c4 => ?_) (fun c4 => ?_)
  · skip
    refine tr_seq (fun K4 hK4 => ?_)
    -- region 2: deadline.go:89
    refine tr_region ?_
    refine tr_val (ov_build rfl (fun ρ k => bs0 k) (bld78 _)) rfl rfl rfl ?_
    (refine tr_storeW H.get0 rfl (Try.sizeOf78 _) rfl rfl rfl rfl rfl rfl rfl rfl ?_; intro w3 U; have H := H.upd0 U; clear U)
    refine tr_nil (hK4 _ _ (TrC.keep [4, 2, 0] ?_))
    show TrC _ _ _ _ [(4, _), (2, _), (0, _)] _ _
    refine tr_ret (post_ret1 (.inr rfl) rfl (by exact ⟨_, rfl, res_blkN H.get0 (Try.isAgg78 _) (Try.sizeOf78 _) rfl rfl⟩) ?_)
    exact ⟨rfl, H.drop0⟩
  · cases c4

/-! (*curfew/deadline.Book).Set -/
set_option maxRecDepth 20000 in
theorem bSet_n (p : Option Addr) (w : World) (hp : NoBook w p) (id due : Int) : Does Try.prog 32 #[.pointer p, .int .u64 id, .int .i64 due] w (fun v w' => v = .tuple #[.int .u64 0, .int .i64 1] ∧ SH w noBlocks [] w') := by
  refine does_enter3 Try.func32 rfl Try.ntmps32 rfl ?_
  have H := SH.start w noBlocks
  refine tr_seq (fun K1 hK1 => ?_)
  -- region 0: deadline.go:120
  refine tr_region ?_
  refine tr_val (ov_assign rfl rfl) rfl rfl rfl ?_
  refine tr_val (ov_assign rfl rfl) rfl rfl rfl ?_
  refine tr_nil (hK1 _ _ (TrC.keep [7, 6, 0, 1, 2] ?_))
  show TrC _ _ _ _ [(7, _), (6, _), (0, _), (1, _), (2, _)] _ _
  refine tr_seq (fun K2 hK2 => ?_)
  refine tr_block ?_
  refine tr_seq (fun K3 hK3 => ?_)
  -- region 1: deadline.go:122
  refine tr_region ?_
  refine tr_val (ov_move rfl rfl) rfl rfl rfl ?_
  refine tr_call (bnone_n p _ (hp.later H)) rfl rfl rfl Try.call71 rfl rfl rfl ?_
  rintro _ w1 ⟨rfl, HC⟩
  have H := H.call0n HC
  refine tr_val (ov_assign rfl rfl) rfl rfl rfl ?_
  refine tr_nil (hK3 _ _ (TrC.keep [10, 7, 6, 0, 1, 2] ?_))
  show TrC _ _ _ _ [(10, _), (7, _), (6, _), (0, _), (1, _), (2, _)] _ _
  refine tr_condb rfl (fun c10 => ?_) (fun c10 => ?_)
  · skip
    refine tr_seq (fun K4 hK4 => ?_)
    -- region 2: deadline.go:123
    refine tr_region ?_
    refine tr_val (ov_assign rfl rfl) rfl rfl rfl ?_
    refine tr_val (ov_assign rfl rfl) rfl rfl rfl ?_
    refine tr_nil (hK4 _ _ (TrC.keep [7, 6, 10, 0, 1, 2] ?_))
    show TrC _ _ _ _ [(7, _), (6, _), (10, _), (0, _), (1, _), (2, _)] _ _
    refine tr_ret (post_ret2 (.inr rfl) rfl rfl rfl ?_)
    exact ⟨rfl, H⟩
  · cases c10

/-! curfew/curfewlaw13.Light -/
set_option maxRecDepth 20000 in
theorem light_c (A1 : Option Addr) (c1 : Nat) (X : List Thing) (now last : Int) (w : World) : Does Try.prog 34 #[.agg #[.int .i64 now, .int .u64 last, .slice A1 (X).length c1]] w (fun v w' => v = .bool (decide ((X.length : Int) ≤ 300)) ∧ SH w noBlocks [] w') := by
  refine does_enter1 Try.func34 rfl Try.ntmps34 rfl ?_
  have H := SH.start w noBlocks
  refine tr_seq (fun K1 hK1 => ?_)
  -- region 0: law.go:35
  refine tr_region ?_
  refine tr_box H rfl rfl rfl rfl rfl rfl ?_
  intro b1 w1 hb1 H
  refine tr_val (ov_assign rfl rfl) rfl rfl rfl ?_
  refine tr_nil (hK1 _ _ (TrC.keep [2, 1] ?_))
  show TrC _ _ _ _ [(2, _), (1, _)] _ _
  refine tr_seq (fun K2 hK2 => ?_)
  -- region 1: law.go:35
  refine tr_region ?_
  refine tr_val (ov_fieldAddr rfl Try.underlying78 rfl (Try.sizeOf32 _) (by decide) rfl) rfl rfl rfl ?_
  refine tr_val (ov_load_blk H.get0 rfl (Try.isAgg32 _) rfl rfl rfl) rfl rfl rfl ?_
  refine tr_val (ov_len rfl rfl Try.underlying32 rfl) rfl rfl rfl ?_
  refine tr_val (ov_leq rfl rfl rfl) rfl rfl rfl ?_
  refine tr_val (ov_assign rfl rfl) rfl rfl rfl ?_
  refine tr_nil (hK2 _ _ (TrC.keep [2] ?_))
  show TrC _ _ _ _ [(2, _)] _ _
  refine tr_ret (post_ret1 (.inr rfl) rfl rfl ?_)
  exact ⟨rfl, H.drop0⟩

theorem liD1 : setE 0 [] 7 10 = 0 := by kernel_rfl
theorem liD2 : setX 0 [] 7 10 = [⟨7, 1, 10⟩] := by kernel_rfl
theorem liD3 : setN 0 [] 7 10 = 1 := by kernel_rfl
theorem liD4 : setR 0 [] 7 10 = 1 := by kernel_rfl
theorem liD5 : setE 1 [⟨7, 1, 10⟩] 7 20 = 0 := by kernel_rfl
theorem liD6 : setX 1 [⟨7, 1, 10⟩] 7 20 = [⟨7, 2, 20⟩] := by kernel_rfl
theorem liD7 : setN 1 [⟨7, 1, 10⟩] 7 20 = 2 := by kernel_rfl
theorem liD8 : setR 1 [⟨7, 1, 10⟩] 7 20 = 2 := by kernel_rfl
theorem liD9 : advF 0 15 [⟨7, 2, 20⟩] = [] := by kernel_rfl
theorem liD10 : advX 0 15 [⟨7, 2, 20⟩] = [⟨7, 2, 20⟩] := by kernel_rfl
theorem liD11 : advN 0 15 = 15 := by kernel_rfl
theorem liD12 : advF 15 20 [⟨7, 2, 20⟩] = [⟨7, 2, 20⟩] := by kernel_rfl
theorem liD13 : advE 15 20 = 0 := by kernel_rfl
theorem liD14 : advE 0 15 = 0 := by kernel_rfl

/-! curfew/curfewlaw13.lives -/
set_option maxRecDepth 20000 in
theorem lives13_c (w : World) : Does Try.prog 29 #[] w (fun v w' => v = .bool true ∧ SH w noBlocks [] w') := by
  refine does_enter0 Try.func29 rfl Try.ntmps29 rfl ?_
  have H := SH.start w noBlocks
  refine tr_seq (fun K1 hK1 => ?_)
  -- region 0: law.go:16
  refine tr_region ?_
  refine tr_val (ov_assign rfl rfl) rfl rfl rfl ?_
  refine tr_nil (hK1 _ _ (TrC.keep [0] ?_))
  show TrC _ _ _ _ [(0, _)] _ _
  refine tr_seq (fun K2 hK2 => ?_)
  -- region 1: law.go:17
  refine tr_region ?_
  refine tr_call (bNew_c 0 _ (by decide)) rfl rfl rfl Try.call28 rfl rfl rfl ?_
  rintro _ w1 ⟨b, L0, rfl, hX0, HC⟩
  have H := H.call0r HC
  refine tr_val (ov_assign rfl rfl) rfl rfl rfl ?_
  refine tr_nil (hK2 _ _ (TrC.keep [1, 0] ?_))
  show TrC _ _ _ _ [(1, _), (0, _)] _ _
  refine tr_seq (fun K3 hK3 => ?_)
  -- region 2: law.go:18
  refine tr_region ?_
  refine tr_val (ov_move rfl rfl) rfl rfl rfl ?_
  refine tr_call (bSet_c b 0 0 [] L0 _ hX0 H.get0 7 10) rfl rfl rfl Try.call32 rfl rfl rfl ?_
  rintro _ w2 ⟨rfl, L1, hX1, HC⟩
  have H := H.call1 HC
  rw [liD4, liD1]
  rw [liD3, liD2] at hX1
  refine tr_val (ov_move rfl rfl) rfl rfl rfl ?_
  refine tr_val (ov_extract rfl rfl rfl) rfl rfl rfl ?_
  refine tr_val (ov_extract rfl rfl rfl) rfl rfl rfl ?_
  refine tr_val (ov_assign rfl rfl) rfl rfl rfl ?_
  refine tr_val (ov_assign rfl rfl) rfl rfl rfl ?_
  refine tr_nil (hK3 _ _ (TrC.keep [3, 2, 1, 0] ?_))
  show TrC _ _ _ _ [(3, _), (2, _), (1, _), (0, _)] _ _
  refine tr_seq (fun K4 hK4 => ?_)
  -- region 3: law.go:19
  refine tr_region ?_
  refine tr_val (ov_move rfl rfl) rfl rfl rfl ?_
  refine tr_call (bSet_c b 0 1 [⟨7, 1, 10⟩] L1 _ hX1 H.get0 7 20) rfl rfl rfl Try.call32 rfl rfl rfl ?_
  rintro _ w3 ⟨rfl, L2, hX2, HC⟩
  have H := H.call1 HC
  rw [liD8, liD5]
  rw [liD7, liD6] at hX2
  refine tr_val (ov_move rfl rfl) rfl rfl rfl ?_
  refine tr_val (ov_extract rfl rfl rfl) rfl rfl rfl ?_
  refine tr_val (ov_extract rfl rfl rfl) rfl rfl rfl ?_
  refine tr_val (ov_assign rfl rfl) rfl rfl rfl ?_
  refine tr_val (ov_assign rfl rfl) rfl rfl rfl ?_
  refine tr_nil (hK4 _ _ (TrC.keep [5, 4, 3, 2, 1, 0] ?_))
  show TrC _ _ _ _ [(5, _), (4, _), (3, _), (2, _), (1, _), (0, _)] _ _
  refine tr_seq (fun K5 hK5 => ?_)
  -- region 4: law.go:20
  refine tr_region ?_
  refine tr_val (ov_move rfl rfl) rfl rfl rfl ?_
  refine tr_call (bAdvance_c b 0 2 [⟨7, 2, 20⟩] L2 _ hX2 H.get0 15) rfl rfl rfl Try.call31 rfl rfl rfl ?_
  rintro _ w4 ⟨A1, c1, rfl, L3, hX3, HC⟩
  have H := H.call1e HC
  rw [liD9, liD14]
  rw [liD9] at H
  rw [liD10, liD11] at hX3
  refine tr_val (ov_move rfl rfl) rfl rfl rfl ?_
  refine tr_val (ov_extract rfl rfl rfl) rfl rfl rfl ?_
  refine tr_val (ov_extract rfl rfl rfl) rfl rfl rfl ?_
  refine tr_val (ov_assign rfl rfl) rfl rfl rfl ?_
  refine tr_val (ov_assign rfl rfl) rfl rfl rfl ?_
  refine tr_nil (hK5 _ _ (TrC.keep [7, 6, 5, 4, 3, 2, 1, 0] ?_))
  show TrC _ _ _ _ [(7, _), (6, _), (5, _), (4, _), (3, _), (2, _), (1, _), (0, _)] _ _
  refine tr_seq (fun K6 hK6 => ?_)
  -- region 5: law.go:21
  refine tr_region ?_
  refine tr_val (ov_move rfl rfl) rfl rfl rfl ?_
  refine tr_call (bAdvance_c b 15 2 [⟨7, 2, 20⟩] L3 _ hX3 H.get1 20) rfl rfl rfl Try.call31 rfl rfl rfl ?_
  rintro _ w5 ⟨A2, c2, rfl, L4, hX4, HC⟩
  have H := H.top1.call1e HC
  rw [liD12, liD13]
  rw [liD12] at H
  refine tr_val (ov_move rfl rfl) rfl rfl rfl ?_
  refine tr_val (ov_extract rfl rfl rfl) rfl rfl rfl ?_
  refine tr_val (ov_extract rfl rfl rfl) rfl rfl rfl ?_
  refine tr_val (ov_assign rfl rfl) rfl rfl rfl ?_
  refine tr_val (ov_assign rfl rfl) rfl rfl rfl ?_
  refine tr_nil (hK6 _ _ (TrC.keep [9, 8, 7, 6, 5, 4, 3, 2, 1, 0] ?_))
  show TrC _ _ _ _ [(9, _), (8, _), (7, _), (6, _), (5, _), (4, _), (3, _), (2, _), (1, _), (0, _)] _ _
  refine tr_seq (fun K7 hK7 => ?_)
  -- region 6: law.go:22
  refine tr_region ?_
  refine tr_val (ov_move rfl rfl) rfl rfl rfl ?_
  refine tr_val (ov_eql rfl rfl rfl) rfl rfl rfl ?_
  refine tr_val (ov_move rfl rfl) rfl rfl rfl ?_
  refine tr_split (t := 33) rfl (fun s33 => ?_) (fun s33 => ?_)
  · skip
    refine tr_val (ov_move rfl rfl) rfl rfl rfl ?_
    refine tr_val (ov_eql rfl rfl rfl) rfl rfl rfl ?_
    refine tr_val (ov_pick (vb := undef) rfl rfl rfl rfl) rfl rfl rfl ?_
    refine tr_val (ov_move rfl rfl) rfl rfl rfl ?_
    refine tr_split (t := 37) rfl (fun s37 => ?_) (fun s37 => ?_)
    · skip
      refine tr_val (ov_move rfl rfl) rfl rfl rfl ?_
      refine tr_val (ov_len rfl rfl Try.underlying32 rfl) rfl rfl rfl ?_
      refine tr_val (ov_eql rfl rfl rfl) rfl rfl rfl ?_
      refine tr_val (ov_pick (vb := undef) rfl rfl rfl rfl) rfl rfl rfl ?_
      refine tr_val (ov_move rfl rfl) rfl rfl rfl ?_
      refine tr_split (t := 42) rfl (fun s42 => ?_) (fun s42 => ?_)
      · skip
        refine tr_val (ov_move rfl rfl) rfl rfl rfl ?_
        refine tr_val (ov_len rfl rfl Try.underlying32 rfl) rfl rfl rfl ?_
        refine tr_val (ov_eql rfl rfl rfl) rfl rfl rfl ?_
        refine tr_val (ov_pick (vb := undef) rfl rfl rfl rfl) rfl rfl rfl ?_
        refine tr_val (ov_move rfl rfl) rfl rfl rfl ?_
        refine tr_split (t := 47) rfl (fun s47 => ?_) (fun s47 => ?_)
        · skip
          refine tr_val (ov_move rfl rfl) rfl rfl rfl ?_
          refine tr_val (ov_indexAddrR (vec_rd H.get0 lenThing (by decide)) rfl Try.underlying32 (Try.sizeOf30 _) rfl rfl (by omega) (by omega)) rfl rfl rfl ?_
          refine tr_val (ld_Thing (vec_rd H.get0 lenThing (by decide)) rfl (Try.isAgg30 _) (Try.sizeOf30 _) rfl (by omega) (by omega)) rfl rfl rfl ?_
          refine tr_val (ov_build rfl (fun ρ k => bs3 k rfl rfl rfl) (bld30_0_1_2 _ _ _ _)) rfl rfl rfl ?_
          refine tr_val (ov_eqTh (s := ⟨7, 2, 20⟩) (t := ⟨7, 2, 20⟩) rfl rfl rfl) rfl rfl rfl ?_
          refine tr_val (ov_pick (vb := undef) rfl rfl rfl rfl) rfl rfl rfl ?_
          refine tr_val (ov_move rfl rfl) rfl rfl rfl ?_
          refine tr_split (t := 54) rfl (fun s54 => ?_) (fun s54 => ?_)
          · skip
            refine tr_val (ov_move rfl rfl) rfl rfl rfl ?_
            refine tr_val (ov_eql rfl rfl rfl) rfl rfl rfl ?_
            refine tr_val (ov_pick (vb := undef) rfl rfl rfl rfl) rfl rfl rfl ?_
            refine tr_val (ov_assign rfl rfl) rfl rfl rfl ?_
            refine tr_nil (hK7 _ _ (TrC.keep [0, 9, 8, 7, 6, 5, 4, 3, 2, 1] ?_))
            show TrC _ _ _ _ [(0, _), (9, _), (8, _), (7, _), (6, _), (5, _), (4, _), (3, _), (2, _), (1, _)] _ _
            refine tr_ret (post_ret1 (.inr rfl) rfl rfl ?_)
            exact ⟨rfl, H.drop0.drop0.drop0⟩
          · exact absurd rfl s54
        · exact absurd rfl s47
      · exact absurd rfl s42
    · exact absurd rfl s37
  · exact absurd rfl s33

end Go.Proofs.Ytblipnjjgbggiaa
