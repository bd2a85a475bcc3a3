/- Contracts of wheel.Wheel: What writes. Conditions: none. -/
import Derived.Test.YtblipnjjgbggiaaQwr
namespace Go.Proofs.Ytblipnjjgbggiaa
open Go Go.RowKit
set_option linter.unusedVariables false
set_option linter.unusedSimpArgs false

/-! (*curfew/quill.Writer).number -/
set_option maxRecDepth 20000 in
theorem wNumber_c (wr : Nat) (A1 : Option Addr) (c : Nat) (L : List Int) (w : World) (hO : Own [blk wr 101 [.slice A1 (L).length c], vec A1 c 5 1 encU8 (L)] w) (hl : L.length ≤ 100000) (n : Nat) (hn : n < 2 ^ 64) (mark : Int) (hm : 0 ≤ mark ∧ mark ≤ 200) : Does Try.prog 106 #[.pointer (some ⟨wr, 0, none⟩), .int .u64 (n : Nat), .int .u8 mark] w (fun v w' => ∃ A' c', SH w (footAll [blk wr 101 [.slice A1 (L).length c], vec A1 c 5 1 encU8 (L)]) [blk wr 101 [.slice A' ((L ++ numM mark n)).length c'], vec A' c' 5 1 encU8 ((L ++ numM mark n))] w') := by
  refine does_enter3 Try.func106 rfl Try.ntmps106 rfl ?_
  have H := SH.ofOwn hO
  have h8 := bytesN_8 hn
  refine tr_seq (fun K1 hK1 => ?_)
  -- region 0: quill.go:20
  refine tr_region ?_
  refine tr_val (ov_assign rfl rfl) rfl rfl rfl ?_
  refine tr_nil (hK1 _ _ (TrC.keep [6, 0, 1, 2] ?_))
  show TrC _ _ _ _ [(6, _), (0, _), (1, _), (2, _)] _ _
  refine tr_seq (fun K2 hK2 => ?_)
  refine tr_seq (fun K3 hK3 => ?_)
  -- region 1: quill.go:21
  refine tr_region ?_
  refine tr_val (ov_move rfl rfl) rfl rfl rfl ?_
  refine tr_val (ov_assign rfl rfl) rfl rfl rfl ?_
  refine tr_nil (hK3 _ _ (TrC.keep [7, 6, 0, 1, 2] ?_))
  show TrC _ _ _ _ [(7, _), (6, _), (0, _), (1, _), (2, _)] _ _
  refine tr_block ?_
  refine tr_loop_ (X := Nat × Int) [0, 1, 2] (fun ⟨x, sz⟩ => [(7, .int .u64 (x : Nat)), (6, .int .i64 sz)]) (fun ⟨x, sz⟩ w' => 0 ≤ sz ∧ (bytesN x).length + sz = (bytesN n).length ∧ SH w (footAll [blk wr 101 [.slice A1 (L).length c], vec A1 c 5 1 encU8 (L)]) [blk wr 101 [.slice A1 (L).length c], vec A1 c 5 1 encU8 (L)] w') (fun ⟨x, sz⟩ => x) (⟨n, 0⟩) (Sub.cons rfl (Sub.cons rfl (Sub.cons rfl (Sub.cons rfl (Sub.cons rfl Sub.nil))))) (⟨by omega, by omega, H⟩) ?_
  rintro ⟨x, sz⟩ w1 ⟨hsz0, hsz, H⟩ K4 hK4
  show TrC _ _ _ _ [(7, _), (6, _), (0, _), (1, _), (2, _)] _ _
  refine tr_seq (fun K5 hK5 => ?_)
  refine tr_seq (fun K6 hK6 => ?_)
  -- region 2: quill.go:21
  refine tr_region ?_
  refine tr_val (ov_move rfl rfl) rfl rfl rfl ?_
  refine tr_val (ov_gtr rfl rfl rfl) rfl rfl rfl ?_
  refine tr_nil (hK6 _ _ (TrC.keep [11, 7, 6, 0, 1, 2] ?_))
  show TrC _ _ _ _ [(11, _), (7, _), (6, _), (0, _), (1, _), (2, _)] _ _
  refine tr_cond rfl (fun c11 => ?_) (fun c11 => ?_)
  · skip
    refine tr_skip (hK5 _ _ (TrC.keep [11, 7, 6, 0, 1, 2] ?_))
    show TrC _ _ _ _ [(11, _), (7, _), (6, _), (0, _), (1, _), (2, _)] _ _
    refine tr_seq (fun K7 hK7 => ?_)
    refine tr_block ?_
    -- region 4: quill.go:22
    refine tr_region ?_
    refine tr_val (ov_move rfl rfl) rfl rfl rfl ?_
    refine tr_val (ov_add rfl rfl rfl (w64 (by have := bytesN_len (x := x) (by omega); omega))) rfl rfl rfl ?_
    refine tr_val (ov_assign rfl rfl) rfl rfl rfl ?_
    refine tr_nil (hK7 _ _ (TrC.keep [6, 11, 7, 0, 1, 2] ?_))
    show TrC _ _ _ _ [(6, _), (11, _), (7, _), (0, _), (1, _), (2, _)] _ _
    -- region 3: quill.go:21
    refine tr_region ?_
    refine tr_val (ov_move rfl rfl) rfl rfl rfl ?_
    refine tr_val (ov_shr rfl rfl rfl (by omega) (shr8 x)) rfl rfl rfl ?_
    refine tr_val (ov_assign rfl rfl) rfl rfl rfl ?_
    skip
    exact tr_nil (hK4 (⟨(x / 256), sz + 1⟩) _ _ (⟨by omega, by have := bytesN_len (x := x) (by omega); omega, H⟩) (by (dsimp only; omega)) (Sub.cons rfl (Sub.cons rfl (Sub.cons rfl (Sub.cons rfl (Sub.cons rfl Sub.nil))))))
  · skip
    refine tr_exit (hK2 _ _ (TrC.keep [11, 7, 6, 0, 1, 2] ?_))
    show TrC _ _ _ _ [(11, _), (7, _), (6, _), (0, _), (1, _), (2, _)] _ _
    refine tr_seq (fun K8 hK8 => ?_)
    -- region 5: quill.go:24
    have hx0 : x = 0 := by omega
    subst hx0
    rw [bytesN_zero] at hsz
    have hsz2 : sz = (bytesN n).length := by simp at hsz; omega
    subst hsz2
    refine tr_region ?_
    refine tr_val (ov_move rfl rfl) rfl rfl rfl ?_
    refine tr_val (ov_move rfl rfl) rfl rfl rfl ?_
    refine tr_val (ov_nilCheck rfl rfl) rfl rfl rfl ?_
    refine tr_val (ov_fieldAddr rfl Try.underlying101 rfl (Try.sizeOf98 _) (by decide) rfl) rfl rfl rfl ?_
    refine tr_val (ov_load_blk H.get0 rfl (Try.isAgg98 _) rfl rfl rfl) rfl rfl rfl ?_
    refine tr_val (ov_move rfl rfl) rfl rfl rfl ?_
    refine tr_val (ov_move rfl rfl) rfl rfl rfl ?_
    refine tr_val (ov_conv rfl Try.underlying3 Try.underlying5 rfl (wu8 (by omega))) rfl rfl rfl ?_
    refine tr_val (ov_add rfl rfl rfl (wu8 (by omega))) rfl rfl rfl ?_
    refine tr_buildSlice H rfl Try.underlying98 info5 rfl (fun ρ k => bs1 k rfl) (by decide) (by decide) (fill_U8_1 _) rfl rfl rfl ?_
    intro b25 wb250 hb25 H
    refine tr_append (M := [mark + (bytesN n).length]) (L := L) H.get2 (rd_blk [mark + ((bytesN n).length : Int)] H.get0 rfl lenU8) rfl rfl rfl Try.underlying98 info5 rfl rfl (show Try.t5.bytes = 1 from rfl) rfl (by decide) lenU8 oneU8 (by simp; omega) (by simp [maxLen]; omega) rfl rfl rfl ?_
    intro A5 c5 w50 U; have H := H.upd2 U; clear U
    refine tr_val (ov_nilCheck rfl rfl) rfl rfl rfl ?_
    refine tr_val (ov_fieldAddr rfl Try.underlying101 rfl (Try.sizeOf98 _) (by decide) rfl) rfl rfl rfl ?_
    (refine tr_store H.get1 rfl (Try.sizeOf98 _) rfl rfl rfl rfl rfl rfl rfl ?_; intro w2 U; have H := H.upd1 U; clear U)
    try simp only [List.set_cons_zero, List.set_cons_succ, Nat.zero_add] at H
    refine tr_nil (hK8 _ _ (TrC.keep [11, 7, 6, 0, 1, 2] ?_))
    show TrC _ _ _ _ [(11, _), (7, _), (6, _), (0, _), (1, _), (2, _)] _ _
    refine tr_seq (fun K9 hK9 => ?_)
    -- region 6: quill.go:25
    have H := H.drop0
    refine tr_region ?_
    refine tr_val (ov_move rfl rfl) rfl rfl rfl ?_
    refine tr_val (ov_move rfl rfl) rfl rfl rfl ?_
    refine tr_nil (hK9 _ _ (TrC.keep [30, 29, 11, 7, 6, 0, 1, 2] ?_))
    show TrC _ _ _ _ [(30, _), (29, _), (11, _), (7, _), (6, _), (0, _), (1, _), (2, _)] _ _
    refine tr_block ?_
    refine tr_loop_ (X := Int × Option Addr × Nat) [29, 11, 7, 6, 0, 1, 2] (fun ⟨i, A2, c2⟩ => [(30, .int .i64 i)]) (fun ⟨i, A2, c2⟩ w' => 0 ≤ i ∧ i ≤ (bytesN n).length ∧ SH w (footAll [blk wr 101 [.slice A1 (L).length c], vec A1 c 5 1 encU8 (L)]) [blk wr 101 [.slice A2 ((L ++ (mark + (bytesN n).length) :: (bytesN n).take i.toNat)).length c2], vec A2 c2 5 1 encU8 ((L ++ (mark + (bytesN n).length) :: (bytesN n).take i.toNat))] w') (fun ⟨i, A2, c2⟩ => ((bytesN n).length - i).toNat) (⟨0, A5, c5⟩) (Sub.cons rfl (Sub.cons rfl (Sub.cons rfl (Sub.cons rfl (Sub.cons rfl (Sub.cons rfl (Sub.cons rfl (Sub.cons rfl Sub.nil)))))))) (⟨by omega, by omega, H⟩) ?_
    rintro ⟨i, A2, c2⟩ w3 ⟨hi0, hi1, H⟩ K10 hK10
    show TrC _ _ _ _ [(30, _), (29, _), (11, _), (7, _), (6, _), (0, _), (1, _), (2, _)] _ _
    refine tr_seq (fun K11 hK11 => ?_)
    -- region 7: quill.go:25
    refine tr_region ?_
    refine tr_val (ov_lss rfl rfl rfl) rfl rfl rfl ?_
    refine tr_nil (hK11 _ _ (TrC.keep [31, 30, 29, 11, 7, 6, 0, 1, 2] ?_))
    show TrC _ _ _ _ [(31, _), (30, _), (29, _), (11, _), (7, _), (6, _), (0, _), (1, _), (2, _)] _ _
    refine tr_seq (fun K12 hK12 => ?_)
    refine tr_cond rfl (fun c31 => ?_) (fun c31 => ?_)
    · skip
      refine tr_skip (hK12 _ _ (TrC.keep [31, 30, 29, 11, 7, 6, 0, 1, 2] ?_))
      show TrC _ _ _ _ [(31, _), (30, _), (29, _), (11, _), (7, _), (6, _), (0, _), (1, _), (2, _)] _ _
      refine tr_seq (fun K13 hK13 => ?_)
      refine tr_block ?_
      refine tr_seq (fun K14 hK14 => ?_)
      -- region 8: quill.go:25
      refine tr_region ?_
      refine tr_val (ov_move rfl rfl) rfl rfl rfl ?_
      refine tr_val (ov_assign rfl rfl) rfl rfl rfl ?_
      refine tr_nil (hK14 _ _ (TrC.keep [8, 31, 30, 29, 11, 7, 6, 0, 1, 2] ?_))
      show TrC _ _ _ _ [(8, _), (31, _), (30, _), (29, _), (11, _), (7, _), (6, _), (0, _), (1, _), (2, _)] _ _
      -- region 9: quill.go:26
      have hlen : ((bytesN n).take i.toNat).length = i.toNat := by rw [List.length_take]; omega
      refine tr_held (fun _ => True) mixed rfl H ?_
      intro w4 H
      refine th_take 0 rfl (by kernel_rfl) (by kernel_rfl) (by kernel_rfl) (trivial) (fun _ hS => ov_move rfl rfl) rfl rfl rfl ?_
      refine th_take 1 rfl (by kernel_rfl) (by kernel_rfl) (by kernel_rfl) (trivial) (fun _ hS => ov_move rfl rfl) rfl rfl rfl ?_
      refine th_take 2 rfl (by kernel_rfl) (by kernel_rfl) (by kernel_rfl) (trivial) (fun _ hS => ov_nilCheck rfl rfl) rfl rfl rfl ?_
      refine th_take 3 rfl (by kernel_rfl) (by kernel_rfl) (by kernel_rfl) (trivial) (fun _ hS => ov_fieldAddr rfl Try.underlying101 rfl (Try.sizeOf98 _) (by decide) rfl) rfl rfl rfl ?_
      refine th_take 5 rfl (by kernel_rfl) (by kernel_rfl) (by kernel_rfl) (trivial) (fun _ hS => ov_move rfl rfl) rfl rfl rfl ?_
      refine th_take 6 rfl (by kernel_rfl) (by kernel_rfl) (by kernel_rfl) (trivial) (fun _ hS => ov_move rfl rfl) rfl rfl rfl ?_
      refine th_take 7 rfl (by kernel_rfl) (by kernel_rfl) (by kernel_rfl) (trivial) (fun _ hS => ov_sub rfl rfl rfl (w64 (by omega))) rfl rfl rfl ?_
      refine th_take 8 rfl (by kernel_rfl) (by kernel_rfl) (by kernel_rfl) (trivial) (fun _ hS => ov_move rfl rfl) rfl rfl rfl ?_
      refine th_take 9 rfl (by kernel_rfl) (by kernel_rfl) (by kernel_rfl) (trivial) (fun _ hS => ov_sub rfl rfl rfl (w64 (by omega))) rfl rfl rfl ?_
      refine th_take 10 rfl (by kernel_rfl) (by kernel_rfl) (by kernel_rfl) (trivial) (fun _ hS => ov_mul rfl rfl rfl (w64 (by omega))) rfl rfl rfl ?_
      refine th_take 11 rfl (by kernel_rfl) (by kernel_rfl) (by kernel_rfl) (trivial) (fun _ hS => ov_shr rfl rfl rfl (by omega) (shrK n _ (by omega) (by omega))) rfl rfl rfl ?_
      refine th_take 12 rfl (by kernel_rfl) (by kernel_rfl) (by kernel_rfl) (trivial) (fun _ hS => ov_conv rfl Try.underlying28 Try.underlying5 rfl (conv8_at hi0 (by omega))) rfl rfl rfl ?_
      refine th_two 4 13 (by kernel_rfl) ?_ ?_
      · skip
        refine tw_val (ov_load_blk H.get0 rfl (Try.isAgg98 _) rfl rfl rfl) rfl (trivial) rfl rfl rfl ?_
        refine th_one 13 (by kernel_rfl) ?_
        refine tw_buildSlice H rfl rfl Try.underlying98 info5 rfl (fun ρ k => bs1 k rfl) (by decide) (by decide) (fill_U8_1 _) rfl rfl rfl ?_
        intro b26 wb260 hb26 H
        refine ⟨trivial, ?_⟩
        refine th_one 14 (by kernel_rfl) ?_
        refine tw_append (M := [gt (bytesN n) i]) (L := (L ++ (mark + (bytesN n).length) :: (bytesN n).take i.toNat)) H.get2 (rd_blk [gt (bytesN n) i] H.get0 rfl lenU8) rfl rfl rfl rfl Try.underlying98 info5 rfl rfl (show Try.t5.bytes = 1 from rfl) rfl (by decide) lenU8 oneU8 (by simp; omega) (by simp [maxLen]; omega) rfl rfl rfl ?_
        intro A6 c6 w60 U; have H := H.upd2 U; clear U
        refine ⟨trivial, ?_⟩
        refine th_take 15 rfl (by kernel_rfl) (by kernel_rfl) (by kernel_rfl) (trivial) (fun _ hS => ov_nilCheck rfl rfl) rfl rfl rfl ?_
        refine th_take 16 rfl (by kernel_rfl) (by kernel_rfl) (by kernel_rfl) (trivial) (fun _ hS => ov_fieldAddr rfl Try.underlying101 rfl (Try.sizeOf98 _) (by decide) rfl) rfl rfl rfl ?_
        refine th_one 17 (by kernel_rfl) ?_
        (refine tw_store H.get1 rfl rfl (Try.sizeOf98 _) rfl rfl rfl rfl rfl rfl rfl ?_; intro w5 U; have H := H.upd1 U; clear U)
        try simp only [List.set_cons_zero, List.set_cons_succ, Nat.zero_add] at H
        refine ⟨trivial, ?_⟩
        refine th_done (by kernel_rfl) ?_
        refine hK13 _ _ (TrC.keep [8, 31, 30, 29, 11, 7, 6, 0, 1, 2] ?_)
        show TrC _ _ _ _ [(8, _), (31, _), (30, _), (29, _), (11, _), (7, _), (6, _), (0, _), (1, _), (2, _)] _ _
        -- region 10: quill.go:25
        refine tr_region ?_
        refine tr_val (ov_add rfl rfl rfl (w64 (by omega))) rfl rfl rfl ?_
        refine tr_val (ov_move rfl rfl) rfl rfl rfl ?_
        skip
        exact tr_nil (hK10 (⟨i + 1, A6, c6⟩) _ _ (⟨by omega, by omega, by rw [take_gt hi0 (by omega), ← List.cons_append, ← List.append_assoc]; exact H.drop0⟩) (by (dsimp only; omega)) (Sub.cons rfl (Sub.cons rfl (Sub.cons rfl (Sub.cons rfl (Sub.cons rfl (Sub.cons rfl (Sub.cons rfl (Sub.cons rfl Sub.nil)))))))))
      · skip
        refine tw_buildSlice H rfl rfl Try.underlying98 info5 rfl (fun ρ k => bs1 k rfl) (by decide) (by decide) (fill_U8_1 _) rfl rfl rfl ?_
        intro b26 wb260 hb26 H
        refine ⟨trivial, ?_⟩
        refine th_one 4 (by kernel_rfl) ?_
        refine tw_val (ov_load_blk H.get1 rfl (Try.isAgg98 _) rfl rfl rfl) rfl (trivial) rfl rfl rfl ?_
        refine th_one 14 (by kernel_rfl) ?_
        refine tw_append (M := [gt (bytesN n) i]) (L := (L ++ (mark + (bytesN n).length) :: (bytesN n).take i.toNat)) H.get2 (rd_blk [gt (bytesN n) i] H.get0 rfl lenU8) rfl rfl rfl rfl Try.underlying98 info5 rfl rfl (show Try.t5.bytes = 1 from rfl) rfl (by decide) lenU8 oneU8 (by simp; omega) (by simp [maxLen]; omega) rfl rfl rfl ?_
        intro A6 c6 w60 U; have H := H.upd2 U; clear U
        refine ⟨trivial, ?_⟩
        refine th_take 15 rfl (by kernel_rfl) (by kernel_rfl) (by kernel_rfl) (trivial) (fun _ hS => ov_nilCheck rfl rfl) rfl rfl rfl ?_
        refine th_take 16 rfl (by kernel_rfl) (by kernel_rfl) (by kernel_rfl) (trivial) (fun _ hS => ov_fieldAddr rfl Try.underlying101 rfl (Try.sizeOf98 _) (by decide) rfl) rfl rfl rfl ?_
        refine th_one 17 (by kernel_rfl) ?_
        (refine tw_store H.get1 rfl rfl (Try.sizeOf98 _) rfl rfl rfl rfl rfl rfl rfl ?_; intro w6 U; have H := H.upd1 U; clear U)
        try simp only [List.set_cons_zero, List.set_cons_succ, Nat.zero_add] at H
        refine ⟨trivial, ?_⟩
        refine th_done (by kernel_rfl) ?_
        refine hK13 _ _ (TrC.keep [8, 31, 30, 29, 11, 7, 6, 0, 1, 2] ?_)
        show TrC _ _ _ _ [(8, _), (31, _), (30, _), (29, _), (11, _), (7, _), (6, _), (0, _), (1, _), (2, _)] _ _
        -- region 10: quill.go:25
        refine tr_region ?_
        refine tr_val (ov_add rfl rfl rfl (w64 (by omega))) rfl rfl rfl ?_
        refine tr_val (ov_move rfl rfl) rfl rfl rfl ?_
        skip
        exact tr_nil (hK10 (⟨i + 1, A6, c6⟩) _ _ (⟨by omega, by omega, by rw [take_gt hi0 (by omega), ← List.cons_append, ← List.append_assoc]; exact H.drop0⟩) (by (dsimp only; omega)) (Sub.cons rfl (Sub.cons rfl (Sub.cons rfl (Sub.cons rfl (Sub.cons rfl (Sub.cons rfl (Sub.cons rfl (Sub.cons rfl Sub.nil)))))))))
    · skip
      refine tr_exit (post_ret0 (.inl rfl) rfl  ?_)
      have e : (bytesN n).take i.toNat = bytesN n := List.take_of_length_le (by omega)
      rw [e] at H
      exact ⟨A2, c2, H⟩

theorem flat_le {f : Int → List Int} : ∀ (Ns : List Int), (∀ x, x ∈ Ns → (f x).length ≤ 9) → (Ns.flatMap f).length ≤ 9 * Ns.length
  | [], _ => by simp
  | x :: Ns, h => by
    have h1 := h x (by simp)
    have h2 := flat_le Ns fun y hy => h y (List.mem_cons_of_mem _ hy)
    simp only [List.flatMap_cons, List.length_append, List.length_cons]
    omega
theorem intM_len {x : Int} (h : -9223372036854775808 ≤ x ∧ x ≤ 9223372036854775807) : (intM x).length ≤ 9 := by
  unfold intM; split
  · exact numM_len _ _ (by omega)
  · exact numM_len _ _ (by omega)
theorem intM_pos {x : Int} (h : ¬ x < 0) : intM x = numM 0 x.toNat := by unfold intM; rw [if_neg h]
theorem numI_len {x : Int} (h : 0 ≤ x ∧ x ≤ 18446744073709551615) : (numI x).length ≤ 9 := numM_len 0 x.toNat (by omega)
theorem flat_snoc {f : Int → List Int} {L Ns : List Int} {i : Int} (h0 : 0 ≤ i) (h1 : i < Ns.length) : L ++ (Ns.take i.toNat).flatMap f ++ f (gt Ns i) = L ++ (Ns.take (i + 1).toNat).flatMap f := by
  rw [take_gt h0 h1, List.flatMap_append, List.append_assoc]; simp

theorem wNumber_i (wr : Nat) (A1 : Option Addr) (c : Nat) (L : List Int) (w : World) (hO : Own [blk wr 101 [.slice A1 (L).length c], vec A1 c 5 1 encU8 (L)] w) (hl : L.length ≤ 100000) (x : Int) (hx : 0 ≤ x ∧ x ≤ 18446744073709551615) (mark : Int) (hm : 0 ≤ mark ∧ mark ≤ 200) : Does Try.prog 106 #[.pointer (some ⟨wr, 0, none⟩), .int .u64 x, .int .u8 mark] w (fun v w' => ∃ A' c', SH w (footAll [blk wr 101 [.slice A1 (L).length c], vec A1 c 5 1 encU8 (L)]) [blk wr 101 [.slice A' ((L ++ numM mark x.toNat)).length c'], vec A' c' 5 1 encU8 ((L ++ numM mark x.toNat))] w') := by
  obtain ⟨n, rfl⟩ := Int.eq_ofNat_of_zero_le hx.1
  exact wNumber_c wr A1 c L w hO hl n (by omega) mark hm

/-! (*curfew/quill.Writer).Num -/
set_option maxRecDepth 20000 in
theorem wNum_c (wr : Nat) (A1 : Option Addr) (c : Nat) (L : List Int) (B3 : Option Addr) (c3 : Nat) (Ns : List Int) (w : World) (hO : Own [blk wr 101 [.slice A1 (L).length c], vec A1 c 5 1 encU8 (L), rdr B3 1 ((Ns).map encU64)] w) (hl : L.length ≤ 90000) (hn : Ns.length ≤ 100) (hb : ∀ x, x ∈ Ns → 0 ≤ x ∧ x ≤ 18446744073709551615) : Does Try.prog 82 #[.pointer (some ⟨wr, 0, none⟩), .slice B3 Ns.length c3] w (fun v w' => ∃ A' c', SH w (footAll [blk wr 101 [.slice A1 (L).length c], vec A1 c 5 1 encU8 (L), rdr B3 1 ((Ns).map encU64)]) [blk wr 101 [.slice A' ((L ++ Ns.flatMap numI)).length c'], vec A' c' 5 1 encU8 ((L ++ Ns.flatMap numI))] w') := by
  refine does_enter2 Try.func82 rfl Try.ntmps82 rfl ?_
  have H := SH.ofOwn hO
  refine tr_seq (fun K1 hK1 => ?_)
  refine tr_seq (fun K2 hK2 => ?_)
  -- region 0: quill.go:32
  refine tr_region ?_
  refine tr_val (ov_move rfl rfl) rfl rfl rfl ?_
  refine tr_val (ov_eql_nil rfl Try.underlying103 rfl rfl) rfl rfl rfl ?_
  refine tr_nil (hK2 _ _ (TrC.keep [7, 0, 1] ?_))
  show TrC _ _ _ _ [(7, _), (0, _), (1, _)] _ _
  refine tr_condb rfl (fun c7 => ?_) (fun c7 => ?_)
  · cases c7
  · skip
    refine tr_skip (hK1 _ _ (TrC.keep [7, 0, 1] ?_))
    show TrC _ _ _ _ [(7, _), (0, _), (1, _)] _ _
    refine tr_seq (fun K3 hK3 => ?_)
    -- region 1: quill.go:35
    refine tr_region ?_
    refine tr_val (ov_move rfl rfl) rfl rfl rfl ?_
    refine tr_val (ov_len rfl rfl Try.underlying174 rfl) rfl rfl rfl ?_
    refine tr_val (ov_move rfl rfl) rfl rfl rfl ?_
    refine tr_nil (hK3 _ _ (TrC.keep [10, 9, 8, 7, 0] ?_))
    show TrC _ _ _ _ [(10, _), (9, _), (8, _), (7, _), (0, _)] _ _
    refine tr_block ?_
    refine tr_loop_ (X := Int × Option Addr × Nat) [9, 8, 7, 0] (fun ⟨i, A2, c2⟩ => [(10, .int .i64 i)]) (fun ⟨i, A2, c2⟩ w' => 0 ≤ i ∧ i ≤ Ns.length ∧ SH w (footAll [blk wr 101 [.slice A1 (L).length c], vec A1 c 5 1 encU8 (L), rdr B3 1 ((Ns).map encU64)]) [blk wr 101 [.slice A2 ((L ++ (Ns.take i.toNat).flatMap numI)).length c2], vec A2 c2 5 1 encU8 ((L ++ (Ns.take i.toNat).flatMap numI)), rdr B3 1 ((Ns).map encU64)] w') (fun ⟨i, A2, c2⟩ => (Ns.length - i).toNat) (⟨0, A1, c⟩) (Sub.cons rfl (Sub.cons rfl (Sub.cons rfl (Sub.cons rfl (Sub.cons rfl Sub.nil))))) (⟨by omega, by omega, by simpa using H⟩) ?_
    rintro ⟨i, A2, c2⟩ w1 ⟨hi0, hi1, H⟩ K4 hK4
    have hfl := flat_le (f := numI) (Ns.take i.toNat) (fun x hx => numI_len (hb x (List.mem_of_mem_take hx)))
    have htl := List.length_take_le i.toNat Ns
    have hll : (L ++ (Ns.take i.toNat).flatMap numI).length ≤ 95000 := by rw [List.length_append]; omega
    show TrC _ _ _ _ [(10, _), (9, _), (8, _), (7, _), (0, _)] _ _
    refine tr_seq (fun K5 hK5 => ?_)
    -- region 2: quill.go:35
    refine tr_region ?_
    refine tr_val (ov_lss rfl rfl rfl) rfl rfl rfl ?_
    refine tr_nil (hK5 _ _ (TrC.keep [11, 10, 9, 8, 7, 0] ?_))
    show TrC _ _ _ _ [(11, _), (10, _), (9, _), (8, _), (7, _), (0, _)] _ _
    refine tr_seq (fun K6 hK6 => ?_)
    refine tr_cond rfl (fun c11 => ?_) (fun c11 => ?_)
    · skip
      refine tr_skip (hK6 _ _ (TrC.keep [11, 10, 9, 8, 7, 0] ?_))
      show TrC _ _ _ _ [(11, _), (10, _), (9, _), (8, _), (7, _), (0, _)] _ _
      refine tr_seq (fun K7 hK7 => ?_)
      refine tr_block ?_
      refine tr_seq (fun K8 hK8 => ?_)
      -- region 3: quill.go:35
      refine tr_region ?_
      refine tr_val (ov_indexAddrR (rdr_rd H.get2) rfl Try.underlying174 (Try.sizeOf28 _) rfl rfl (by omega) (by omega)) rfl rfl rfl ?_
      refine tr_val (ld_U64 (rdr_rd H.get2) rfl (Try.isAgg28 _) rfl (by omega) (by omega)) rfl rfl rfl ?_
      refine tr_val (ov_assign rfl rfl) rfl rfl rfl ?_
      refine tr_nil (hK8 _ _ (TrC.keep [5, 11, 10, 9, 8, 7, 0] ?_))
      show TrC _ _ _ _ [(5, _), (11, _), (10, _), (9, _), (8, _), (7, _), (0, _)] _ _
      -- region 4: quill.go:36
      have hbi := hb _ (gt_mem (L := Ns) hi0 (by omega))
      refine tr_region ?_
      refine tr_val (ov_move rfl rfl) rfl rfl rfl ?_
      refine tr_val (ov_move rfl rfl) rfl rfl rfl ?_
      refine tr_call (wNumber_i wr A2 c2 (L ++ (Ns.take i.toNat).flatMap numI) _ (H.own_ [_, _] (rs := [_])) (by omega) (gt Ns i) hbi 0 (by decide)) rfl rfl rfl Try.call106 rfl rfl rfl ?_
      rintro _ w2 ⟨A4, c4, HC⟩
      have H := H.call2 HC
      refine tr_nil (hK7 _ _ (TrC.keep [11, 10, 9, 8, 7, 0] ?_))
      show TrC _ _ _ _ [(11, _), (10, _), (9, _), (8, _), (7, _), (0, _)] _ _
      -- region 5: quill.go:35
      refine tr_region ?_
      refine tr_val (ov_add rfl rfl rfl (w64 (by omega))) rfl rfl rfl ?_
      refine tr_val (ov_move rfl rfl) rfl rfl rfl ?_
      skip
      exact tr_nil (hK4 (⟨i + 1, A4, c4⟩) _ _ (⟨by omega, by omega, by rw [← flat_snoc (f := numI) hi0 (by omega)]; exact H⟩) (by (dsimp only; omega)) (Sub.cons rfl (Sub.cons rfl (Sub.cons rfl (Sub.cons rfl (Sub.cons rfl Sub.nil))))))
    · skip
      refine tr_exit (post_ret0 (.inl rfl) rfl  ?_)
      have e : Ns.take i.toNat = Ns := List.take_of_length_le (by omega)
      rw [e] at H
      exact ⟨A2, c2, H.drop2⟩

/-! (*curfew/quill.Writer).Int -/
set_option maxRecDepth 20000 in
theorem wInt_c (wr : Nat) (A1 : Option Addr) (c : Nat) (L : List Int) (B3 : Option Addr) (c3 : Nat) (Ns : List Int) (w : World) (hO : Own [blk wr 101 [.slice A1 (L).length c], vec A1 c 5 1 encU8 (L), rdr B3 1 ((Ns).map encI64)] w) (hl : L.length ≤ 90000) (hn : Ns.length ≤ 100) (hb : ∀ x, x ∈ Ns → -9223372036854775808 ≤ x ∧ x ≤ 9223372036854775807) : Does Try.prog 81 #[.pointer (some ⟨wr, 0, none⟩), .slice B3 Ns.length c3] w (fun v w' => ∃ A' c', SH w (footAll [blk wr 101 [.slice A1 (L).length c], vec A1 c 5 1 encU8 (L), rdr B3 1 ((Ns).map encI64)]) [blk wr 101 [.slice A' ((L ++ Ns.flatMap intM)).length c'], vec A' c' 5 1 encU8 ((L ++ Ns.flatMap intM))] w') := by
  refine does_enter2 Try.func81 rfl Try.ntmps81 rfl ?_
  have H := SH.ofOwn hO
  refine tr_seq (fun K1 hK1 => ?_)
  refine tr_seq (fun K2 hK2 => ?_)
  -- region 0: quill.go:42
  refine tr_region ?_
  refine tr_val (ov_move rfl rfl) rfl rfl rfl ?_
  refine tr_val (ov_eql_nil rfl Try.underlying103 rfl rfl) rfl rfl rfl ?_
  refine tr_nil (hK2 _ _ (TrC.keep [7, 0, 1] ?_))
  show TrC _ _ _ _ [(7, _), (0, _), (1, _)] _ _
  refine tr_condb rfl (fun c7 => ?_) (fun c7 => ?_)
  · cases c7
  · skip
    refine tr_skip (hK1 _ _ (TrC.keep [7, 0, 1] ?_))
    show TrC _ _ _ _ [(7, _), (0, _), (1, _)] _ _
    refine tr_seq (fun K3 hK3 => ?_)
    -- region 1: quill.go:45
    refine tr_region ?_
    refine tr_val (ov_move rfl rfl) rfl rfl rfl ?_
    refine tr_val (ov_len rfl rfl Try.underlying22 rfl) rfl rfl rfl ?_
    refine tr_val (ov_move rfl rfl) rfl rfl rfl ?_
    refine tr_nil (hK3 _ _ (TrC.keep [10, 9, 8, 7, 0] ?_))
    show TrC _ _ _ _ [(10, _), (9, _), (8, _), (7, _), (0, _)] _ _
    refine tr_block ?_
    refine tr_loop_ (X := Int × Option Addr × Nat) [9, 8, 7, 0] (fun ⟨i, A2, c2⟩ => [(10, .int .i64 i)]) (fun ⟨i, A2, c2⟩ w' => 0 ≤ i ∧ i ≤ Ns.length ∧ SH w (footAll [blk wr 101 [.slice A1 (L).length c], vec A1 c 5 1 encU8 (L), rdr B3 1 ((Ns).map encI64)]) [blk wr 101 [.slice A2 ((L ++ (Ns.take i.toNat).flatMap intM)).length c2], vec A2 c2 5 1 encU8 ((L ++ (Ns.take i.toNat).flatMap intM)), rdr B3 1 ((Ns).map encI64)] w') (fun ⟨i, A2, c2⟩ => (Ns.length - i).toNat) (⟨0, A1, c⟩) (Sub.cons rfl (Sub.cons rfl (Sub.cons rfl (Sub.cons rfl (Sub.cons rfl Sub.nil))))) (⟨by omega, by omega, by simpa using H⟩) ?_
    rintro ⟨i, A2, c2⟩ w1 ⟨hi0, hi1, H⟩ K4 hK4
    have hfl := flat_le (f := intM) (Ns.take i.toNat) (fun x hx => intM_len (hb x (List.mem_of_mem_take hx)))
    have htl := List.length_take_le i.toNat Ns
    have hll : (L ++ (Ns.take i.toNat).flatMap intM).length ≤ 95000 := by rw [List.length_append]; omega
    show TrC _ _ _ _ [(10, _), (9, _), (8, _), (7, _), (0, _)] _ _
    refine tr_seq (fun K5 hK5 => ?_)
    -- region 2: quill.go:45
    refine tr_region ?_
    refine tr_val (ov_lss rfl rfl rfl) rfl rfl rfl ?_
    refine tr_nil (hK5 _ _ (TrC.keep [11, 10, 9, 8, 7, 0] ?_))
    show TrC _ _ _ _ [(11, _), (10, _), (9, _), (8, _), (7, _), (0, _)] _ _
    refine tr_seq (fun K6 hK6 => ?_)
    refine tr_cond rfl (fun c11 => ?_) (fun c11 => ?_)
    · skip
      refine tr_skip (hK6 _ _ (TrC.keep [11, 10, 9, 8, 7, 0] ?_))
      show TrC _ _ _ _ [(11, _), (10, _), (9, _), (8, _), (7, _), (0, _)] _ _
      refine tr_seq (fun K7 hK7 => ?_)
      refine tr_block ?_
      refine tr_seq (fun K8 hK8 => ?_)
      -- region 3: quill.go:45
      refine tr_region ?_
      refine tr_val (ov_indexAddrR (rdr_rd H.get2) rfl Try.underlying22 (Try.sizeOf2 _) rfl rfl (by omega) (by omega)) rfl rfl rfl ?_
      refine tr_val (ld_I64 (rdr_rd H.get2) rfl (Try.isAgg2 _) rfl (by omega) (by omega)) rfl rfl rfl ?_
      refine tr_val (ov_assign rfl rfl) rfl rfl rfl ?_
      refine tr_nil (hK8 _ _ (TrC.keep [5, 11, 10, 9, 8, 7, 0] ?_))
      show TrC _ _ _ _ [(5, _), (11, _), (10, _), (9, _), (8, _), (7, _), (0, _)] _ _
      refine tr_seq (fun K9 hK9 => ?_)
      -- region 4: quill.go:46
      have hbi := hb _ (gt_mem (L := Ns) hi0 (by omega))
      refine tr_region ?_
      refine tr_val (ov_move rfl rfl) rfl rfl rfl ?_
      refine tr_val (ov_lss rfl rfl rfl) rfl rfl rfl ?_
      refine tr_nil (hK9 _ _ (TrC.keep [15, 5, 11, 10, 9, 8, 7, 0] ?_))
      show TrC _ _ _ _ [(15, _), (5, _), (11, _), (10, _), (9, _), (8, _), (7, _), (0, _)] _ _
      refine tr_cond rfl (fun c15 => ?_) (fun c15 => ?_)
      · skip
        -- region 5: quill.go:47
        refine tr_region ?_
        refine tr_val (ov_move rfl rfl) rfl rfl rfl ?_
        refine tr_val (ov_move rfl rfl) rfl rfl rfl ?_
        refine tr_val (ov_sub rfl rfl rfl (w64 (by omega))) rfl rfl rfl ?_
        refine tr_val (ov_conv rfl Try.underlying2 Try.underlying28 rfl (wu64 (by omega))) rfl rfl rfl ?_
        refine tr_call (wNumber_i wr A2 c2 (L ++ (Ns.take i.toNat).flatMap intM) _ (H.own_ [_, _] (rs := [_])) (by omega) (-1 - gt Ns i) (by omega) 128 (by decide)) rfl rfl rfl Try.call106 rfl rfl rfl ?_
        rintro _ w2 ⟨A4, c4, HC⟩
        have H := H.call2 HC
        refine tr_nil (hK7 _ _ (TrC.keep [15, 5, 11, 10, 9, 8, 7, 0] ?_))
        show TrC _ _ _ _ [(15, _), (5, _), (11, _), (10, _), (9, _), (8, _), (7, _), (0, _)] _ _
        -- region 7: quill.go:45
        refine tr_region ?_
        refine tr_val (ov_add rfl rfl rfl (w64 (by omega))) rfl rfl rfl ?_
        refine tr_val (ov_move rfl rfl) rfl rfl rfl ?_
        skip
        exact tr_nil (hK4 (⟨i + 1, A4, c4⟩) _ _ (⟨by omega, by omega, by rw [← flat_snoc (f := intM) hi0 (by omega)]; unfold intM; rw [if_pos (by omega)]; exact H⟩) (by (dsimp only; omega)) (Sub.cons rfl (Sub.cons rfl (Sub.cons rfl (Sub.cons rfl (Sub.cons rfl Sub.nil))))))
      · skip
        -- region 6: quill.go:49
        refine tr_region ?_
        refine tr_val (ov_move rfl rfl) rfl rfl rfl ?_
        refine tr_val (ov_move rfl rfl) rfl rfl rfl ?_
        refine tr_val (ov_conv rfl Try.underlying2 Try.underlying28 rfl (wu64 (by omega))) rfl rfl rfl ?_
        refine tr_call (wNumber_i wr A2 c2 (L ++ (Ns.take i.toNat).flatMap intM) _ (H.own_ [_, _] (rs := [_])) (by omega) (gt Ns i) (by omega) 0 (by decide)) rfl rfl rfl Try.call106 rfl rfl rfl ?_
        rintro _ w3 ⟨A4, c4, HC⟩
        have H := H.call2 HC
        refine tr_nil (hK7 _ _ (TrC.keep [15, 5, 11, 10, 9, 8, 7, 0] ?_))
        show TrC _ _ _ _ [(15, _), (5, _), (11, _), (10, _), (9, _), (8, _), (7, _), (0, _)] _ _
        -- region 7: quill.go:45
        refine tr_region ?_
        refine tr_val (ov_add rfl rfl rfl (w64 (by omega))) rfl rfl rfl ?_
        refine tr_val (ov_move rfl rfl) rfl rfl rfl ?_
        skip
        exact tr_nil (hK4 (⟨i + 1, A4, c4⟩) _ _ (⟨by omega, by omega, by rw [← flat_snoc (f := intM) hi0 (by omega)]; rw [intM_pos (by omega)]; exact H⟩) (by (dsimp only; omega)) (Sub.cons rfl (Sub.cons rfl (Sub.cons rfl (Sub.cons rfl (Sub.cons rfl Sub.nil))))))
    · skip
      refine tr_exit (post_ret0 (.inl rfl) rfl  ?_)
      have e : Ns.take i.toNat = Ns := List.take_of_length_le (by omega)
      rw [e] at H
      exact ⟨A2, c2, H.drop2⟩

/-! bytes.Clone -/
set_option maxRecDepth 20000 in
theorem bClone_b (A1 : Option Addr) (c : Nat) (L : List Int) (w : World) (hR : Rd w A1 1 (L.map encU8)) (hl : L.length ≤ 100000) : Does Try.prog 86 #[.slice A1 L.length c] w (fun v w' => ∃ A' c', v = .slice A' L.length c' ∧ SH w noBlocks [vec A' c' 5 1 encU8 (L)] w') := by
  refine does_enter1 Try.func86 rfl Try.ntmps86 rfl ?_
  have H := SH.start w noBlocks
  refine tr_seq (fun K1 hK1 => ?_)
  -- region 0: bytes.go:1391
  refine tr_region ?_
  refine tr_val (ov_assign rfl rfl) rfl rfl rfl ?_
  refine tr_nil (hK1 _ _ (TrC.keep [2, 0] ?_))
  show TrC _ _ _ _ [(2, _), (0, _)] _ _
  refine tr_seq (fun K2 hK2 => ?_)
  refine tr_seq (fun K3 hK3 => ?_)
  -- region 1: bytes.go:1392
  refine tr_region ?_
  refine tr_val (ov_move rfl rfl) rfl rfl rfl ?_
  refine tr_val (ov_seql_nil rfl Try.underlying98 rfl rfl) rfl rfl rfl ?_
  refine tr_nil (hK3 _ _ (TrC.keep [4, 2, 0] ?_))
  show TrC _ _ _ _ [(4, _), (2, _), (0, _)] _ _
  refine tr_condb rfl (fun c4 => ?_) (fun c4 => ?_)
  · skip
    refine tr_seq (fun K4 hK4 => ?_)
    -- region 2: bytes.go:1393
    refine tr_region ?_
    refine tr_val (ov_assign rfl rfl) rfl rfl rfl ?_
    refine tr_nil (hK4 _ _ (TrC.keep [2, 4, 0] ?_))
    show TrC _ _ _ _ [(2, _), (4, _), (0, _)] _ _
    refine tr_ret (post_ret1 (.inr rfl) rfl rfl ?_)
    have hA : A1 = none := by cases A1 with | none => rfl | some a => cases c4
    have hL : L = [] := by cases hq : L with | nil => rfl | cons a M => have := hR.1 (by rw [hq]; simp); rw [hA] at this; cases this
    subst hL
    exact ⟨none, 0, rfl, H.addNil _ _ _⟩
  · skip
    refine tr_skip (hK2 _ _ (TrC.keep [4, 2, 0] ?_))
    show TrC _ _ _ _ [(4, _), (2, _), (0, _)] _ _
    refine tr_seq (fun K5 hK5 => ?_)
    -- region 3: bytes.go:1395
    refine tr_region ?_
    refine tr_buildSlice0 H rfl Try.underlying98 info5 rfl rfl rfl ?_
    intro b5 w50 hb5 H
    have H := H.upd0 (upd_vec_of_blk (L := ([] : List Int)) (enc := encU8) (sz := 1) H.get0 rfl lenU8 (by simp))
    refine tr_val (ov_move rfl rfl) rfl rfl rfl ?_
    refine tr_append (M := L) (L := ([] : List Int)) H.get0 (H.rd0 hR) rfl rfl rfl Try.underlying98 info5 rfl rfl (show Try.t5.bytes = 1 from rfl) rfl (by decide) lenU8 oneU8 (by simp; omega) (by simp [maxLen]; omega) rfl rfl rfl ?_
    intro A7 c7 w70 U; have H := H.upd0 U; clear U
    rw [List.nil_append] at H ⊢
    refine tr_val (ov_assign rfl rfl) rfl rfl rfl ?_
    refine tr_nil (hK5 _ _ (TrC.keep [2, 4, 0] ?_))
    show TrC _ _ _ _ [(2, _), (4, _), (0, _)] _ _
    refine tr_ret (post_ret1 (.inr rfl) rfl rfl ?_)
    exact ⟨A7, c7, rfl, H⟩

/-! (*curfew/quill.Writer).Bytes -/
set_option maxRecDepth 20000 in
theorem wBytes_c (wr : Nat) (A1 : Option Addr) (c : Nat) (L : List Int) (w : World) (hB : (blk wr 101 [.slice A1 (L).length c]).holds w) (hV : (vec A1 c 5 1 encU8 (L)).holds w) (hl : L.length ≤ 100000) : Does Try.prog 47 #[.pointer (some ⟨wr, 0, none⟩)] w (fun v w' => ∃ A' c', v = .slice A' L.length c' ∧ SH w noBlocks [vec A' c' 5 1 encU8 (L)] w') := by
  refine does_enter1 Try.func47 rfl Try.ntmps47 rfl ?_
  have H := SH.start w noBlocks
  refine tr_seq (fun K1 hK1 => ?_)
  -- region 0: quill.go:88
  refine tr_region ?_
  refine tr_val (ov_assign rfl rfl) rfl rfl rfl ?_
  refine tr_nil (hK1 _ _ (TrC.keep [2, 0] ?_))
  show TrC _ _ _ _ [(2, _), (0, _)] _ _
  refine tr_seq (fun K2 hK2 => ?_)
  refine tr_seq (fun K3 hK3 => ?_)
  -- region 1: quill.go:89
  refine tr_region ?_
  refine tr_val (ov_move rfl rfl) rfl rfl rfl ?_
  refine tr_val (ov_eql_nil rfl Try.underlying103 rfl rfl) rfl rfl rfl ?_
  refine tr_nil (hK3 _ _ (TrC.keep [4, 2, 0] ?_))
  show TrC _ _ _ _ [(4, _), (2, _), (0, _)] _ _
  refine tr_condb rfl (fun c4 => ?_) (fun c4 => ?_)
  · cases c4
  · skip
    refine tr_skip (hK2 _ _ (TrC.keep [4, 2, 0] ?_))
    show TrC _ _ _ _ [(4, _), (2, _), (0, _)] _ _
    refine tr_seq (fun K4 hK4 => ?_)
    -- region 3: quill.go:92
    refine tr_region ?_
    refine tr_val (ov_move rfl rfl) rfl rfl rfl ?_
    refine tr_val (ov_nilCheck rfl rfl) rfl rfl rfl ?_
    refine tr_val (ov_fieldAddr rfl Try.underlying101 rfl (Try.sizeOf98 _) (by decide) rfl) rfl rfl rfl ?_
    refine tr_val (ov_load_blk (H.res0 hB) rfl (Try.isAgg98 _) rfl rfl rfl) rfl rfl rfl ?_
    refine tr_call (bClone_b A1 c L _ (vec_rd (H.res0 hV) lenU8 (by decide)) hl) rfl rfl rfl Try.call86 rfl rfl rfl ?_
    rintro _ w1 ⟨A7, c7, rfl, HC⟩
    have H := H.call0r HC
    refine tr_val (ov_assign rfl rfl) rfl rfl rfl ?_
    refine tr_nil (hK4 _ _ (TrC.keep [2, 4, 0] ?_))
    show TrC _ _ _ _ [(2, _), (4, _), (0, _)] _ _
    refine tr_ret (post_ret1 (.inr rfl) rfl rfl ?_)
    exact ⟨A7, c7, rfl, H⟩

theorem thB_len {t : Thing} (h : (0 ≤ t.id ∧ t.id ≤ 18446744073709551615) ∧ (0 ≤ t.gen ∧ t.gen ≤ 18446744073709551615) ∧ (0 ≤ t.due ∧ t.due ≤ 9223372036854775807)) : (thB t).length ≤ 27 := by
  have h1 := numI_len h.1
  have h2 := numI_len h.2.1
  have h3 := numI_len (x := t.due) (by omega)
  unfold thB; simp only [List.length_append]; omega
theorem flatT_le : ∀ (X : List Thing), (∀ t, t ∈ X → (0 ≤ t.id ∧ t.id ≤ 18446744073709551615) ∧ (0 ≤ t.gen ∧ t.gen ≤ 18446744073709551615) ∧ (0 ≤ t.due ∧ t.due ≤ 9223372036854775807)) → (X.flatMap thB).length ≤ 27 * X.length
  | [], _ => by simp
  | x :: X, h => by
    have h1 := thB_len (h x (by simp))
    have h2 := flatT_le X fun y hy => h y (List.mem_cons_of_mem _ hy)
    simp only [List.flatMap_cons, List.length_append, List.length_cons]
    omega
theorem flatT_snoc {P : List Int} {X : List Thing} {i : Int} (h0 : 0 ≤ i) (h1 : i < X.length) : P ++ (X.take i.toNat).flatMap thB ++ thB (gt X i) = P ++ (X.take (i + 1).toNat).flatMap thB := by
  rw [take_gt h0 h1, List.flatMap_append, List.append_assoc]; simp
theorem thB_flat (t : Thing) : [t.id, t.gen, t.due].flatMap numI = thB t := by simp [thB]

/-! curfew/deadline.Put -/
set_option maxRecDepth 20000 in
theorem Put_c (wr : Nat) (A1 : Option Addr) (c : Nat) (B : Option Addr) (cB : Nat) (X : List Thing) (now last : Int) (w : World) (hO : Own [blk wr 101 [.slice A1 (([] : List Int)).length c], vec A1 c 5 1 encU8 (([] : List Int))] w) (hXR : ∀ (rs : List Res) (w' : World), SH w (footAll [blk wr 101 [.slice A1 (([] : List Int)).length c], vec A1 c 5 1 encU8 (([] : List Int))]) rs w' → Rd w' B 3 (X.map encThing)) (hX : ∀ t, t ∈ X → (0 ≤ t.id ∧ t.id ≤ 18446744073709551615) ∧ (0 ≤ t.gen ∧ t.gen ≤ 18446744073709551615) ∧ (0 ≤ t.due ∧ t.due ≤ 9223372036854775807)) (hl : X.length ≤ 256) (hn : -9223372036854775808 ≤ now ∧ now ≤ 9223372036854775807) (hla : 0 ≤ last ∧ last ≤ 18446744073709551615) : Does Try.prog 44 #[.pointer (some ⟨wr, 0, none⟩), .agg #[.int .i64 now, .int .u64 last, .slice B (X).length cB]] w (fun v w' => ∃ A' c', SH w (footAll [blk wr 101 [.slice A1 (([] : List Int)).length c], vec A1 c 5 1 encU8 (([] : List Int))]) [blk wr 101 [.slice A' (putB now last X).length c'], vec A' c' 5 1 encU8 (putB now last X)] w') := by
  refine does_enter2 Try.func44 rfl Try.ntmps44 rfl ?_
  have H := SH.ofOwn hO
  have g1 := intM_len hn
  have g2 := numI_len hla
  have g3 := numI_len (x := (X.length : Int)) (by omega)
  refine tr_seq (fun K1 hK1 => ?_)
  -- region 0: deadline.go:146
  refine tr_region ?_
  refine tr_box H rfl rfl rfl rfl rfl rfl ?_
  intro b1 w1 hb1 H
  refine tr_nil (hK1 _ _ (TrC.keep [3, 0] ?_))
  show TrC _ _ _ _ [(3, _), (0, _)] _ _
  refine tr_seq (fun K2 hK2 => ?_)
  -- region 1: deadline.go:147
  refine tr_region ?_
  refine tr_val (ov_move rfl rfl) rfl rfl rfl ?_
  refine tr_val (ov_fieldAddr rfl Try.underlying78 rfl (Try.sizeOf2 _) (by decide) rfl) rfl rfl rfl ?_
  refine tr_val (ov_load_blk H.get0 rfl (Try.isAgg2 _) rfl rfl rfl) rfl rfl rfl ?_
  refine tr_buildSlice H rfl Try.underlying22 info2 rfl (fun ρ k => bs1 k rfl) (by decide) (by decide) (fill_I64_1 _) rfl rfl rfl ?_
  intro b9 w90 hb9 H
  have H := H.upd0 (upd_vec_of_blk (L := ([now] : List Int)) (enc := encI64) (sz := 1) H.get0 rfl lenI64 (Nat.le_of_ble_eq_true rfl))
  have H := H.upd0 (upd_rdr_of_vec H.get0 lenI64 (by decide))
  have H := H.top3.top3
  refine tr_call (wInt_c wr A1 c ([] : List Int) (some ⟨b9, 0, none⟩) 1 [now] _ (H.own_ [_, _, _] (rs := [_])) (by decide) (Nat.le_of_ble_eq_true rfl) (by simpa using hn)) rfl rfl rfl Try.call81 rfl rfl rfl ?_
  rintro _ w2 ⟨A2, c2, HC⟩
  have H := H.call3 HC
  refine tr_nil (hK2 _ _ (TrC.keep [3, 0] ?_))
  show TrC _ _ _ _ [(3, _), (0, _)] _ _
  refine tr_seq (fun K3 hK3 => ?_)
  -- region 2: deadline.go:148
  refine tr_region ?_
  refine tr_val (ov_move rfl rfl) rfl rfl rfl ?_
  refine tr_val (ov_fieldAddr rfl Try.underlying78 rfl (Try.sizeOf28 _) (by decide) rfl) rfl rfl rfl ?_
  refine tr_val (ov_load_blk H.get2 rfl (Try.isAgg28 _) rfl rfl rfl) rfl rfl rfl ?_
  refine tr_val (ov_fieldAddr rfl Try.underlying78 rfl (Try.sizeOf32 _) (by decide) rfl) rfl rfl rfl ?_
  refine tr_val (ov_load_blk H.get2 rfl (Try.isAgg32 _) rfl rfl rfl) rfl rfl rfl ?_
  refine tr_val (ov_len rfl rfl Try.underlying32 rfl) rfl rfl rfl ?_
  refine tr_val (ov_conv rfl Try.underlying3 Try.underlying28 rfl (wu64 (by omega))) rfl rfl rfl ?_
  refine tr_buildSlice H rfl Try.underlying174 info28 rfl (fun ρ k => bs2 k rfl rfl) (by decide) (by decide) (fill_U64_2 _ _) rfl rfl rfl ?_
  intro b18 w180 hb18 H
  have H := H.upd0 (upd_vec_of_blk (L := ([last, (X.length : Int)] : List Int)) (enc := encU64) (sz := 1) H.get0 rfl lenU64 (Nat.le_of_ble_eq_true rfl))
  have H := H.upd0 (upd_rdr_of_vec H.get0 lenU64 (by decide))
  have H := H.top1.top2.top1
  refine tr_call (wNum_c wr A2 c2 ([] ++ [now].flatMap intM) (some ⟨b18, 0, none⟩) 2 [last, (X.length : Int)] _ (H.own_ [_, _, _] (rs := [_])) (by simp; omega) (Nat.le_of_ble_eq_true rfl) (by simp; omega)) rfl rfl rfl Try.call82 rfl rfl rfl ?_
  rintro _ w3 ⟨A3, c3, HC⟩
  have H := H.call3 HC
  have e0 : ([] ++ [now].flatMap intM) ++ [last, (X.length : Int)].flatMap numI = intM now ++ numI last ++ numI X.length ++ ([] : List Int) := by simp
  rw [e0] at H
  refine tr_nil (hK3 _ _ (TrC.keep [3, 0] ?_))
  show TrC _ _ _ _ [(3, _), (0, _)] _ _
  refine tr_seq (fun K4 hK4 => ?_)
  -- region 3: deadline.go:149
  refine tr_region ?_
  refine tr_val (ov_fieldAddr rfl Try.underlying78 rfl (Try.sizeOf32 _) (by decide) rfl) rfl rfl rfl ?_
  refine tr_val (ov_load_blk H.get2 rfl (Try.isAgg32 _) rfl rfl rfl) rfl rfl rfl ?_
  refine tr_val (ov_len rfl rfl Try.underlying32 rfl) rfl rfl rfl ?_
  refine tr_val (ov_move rfl rfl) rfl rfl rfl ?_
  refine tr_nil (hK4 _ _ (TrC.keep [23, 22, 21, 3, 0] ?_))
  show TrC _ _ _ _ [(23, _), (22, _), (21, _), (3, _), (0, _)] _ _
  refine tr_block ?_
  refine tr_loop_ (X := Int × Option Addr × Nat) [22, 21, 3, 0] (fun ⟨i, A4, c4⟩ => [(23, .int .i64 i)]) (fun ⟨i, A4, c4⟩ w' => 0 ≤ i ∧ i ≤ X.length ∧ SH w (footAll [blk wr 101 [.slice A1 (([] : List Int)).length c], vec A1 c 5 1 encU8 (([] : List Int))]) [blk wr 101 [.slice A4 ((intM now ++ numI last ++ numI X.length ++ (X.take i.toNat).flatMap thB)).length c4], vec A4 c4 5 1 encU8 ((intM now ++ numI last ++ numI X.length ++ (X.take i.toNat).flatMap thB)), blk b1 78 [.int .i64 now, .int .u64 last, .slice B (X).length cB]] w') (fun ⟨i, A4, c4⟩ => (X.length - i).toNat) (⟨0, A3, c3⟩) (Sub.cons rfl (Sub.cons rfl (Sub.cons rfl (Sub.cons rfl (Sub.cons rfl Sub.nil))))) (⟨by omega, by omega, H⟩) ?_
  rintro ⟨i, A4, c4⟩ w4 ⟨hi0, hi1, H⟩ K5 hK5
  show TrC _ _ _ _ [(23, _), (22, _), (21, _), (3, _), (0, _)] _ _
  refine tr_seq (fun K6 hK6 => ?_)
  -- region 4: deadline.go:149
  refine tr_region ?_
  refine tr_val (ov_lss rfl rfl rfl) rfl rfl rfl ?_
  refine tr_nil (hK6 _ _ (TrC.keep [24, 23, 22, 21, 3, 0] ?_))
  show TrC _ _ _ _ [(24, _), (23, _), (22, _), (21, _), (3, _), (0, _)] _ _
  refine tr_seq (fun K7 hK7 => ?_)
  refine tr_cond rfl (fun c24 => ?_) (fun c24 => ?_)
  · skip
    refine tr_skip (hK7 _ _ (TrC.keep [24, 23, 22, 21, 3, 0] ?_))
    show TrC _ _ _ _ [(24, _), (23, _), (22, _), (21, _), (3, _), (0, _)] _ _
    refine tr_seq (fun K8 hK8 => ?_)
    refine tr_block ?_
    refine tr_seq (fun K9 hK9 => ?_)
    -- region 5: deadline.go:149
    refine tr_region ?_
    refine tr_val (ov_indexAddrR (hXR _ _ H) rfl Try.underlying32 (Try.sizeOf30 _) rfl rfl (by omega) (by omega)) rfl rfl rfl ?_
    refine tr_val (ld_Thing (hXR _ _ H) rfl (Try.isAgg30 _) (Try.sizeOf30 _) rfl (by omega) (by omega)) rfl rfl rfl ?_
    refine tr_alloc H rfl (Try.zeroValue30 _) rfl rfl rfl rfl ?_
    intro b5 w5 hb5 H
    (refine tr_storeW H.get0 rfl (Try.sizeOf30 _) rfl rfl rfl rfl rfl rfl rfl rfl ?_; intro w6 U; have H := H.upd0 U; clear U)
    refine tr_nil (hK9 _ _ (TrC.keep [5, 24, 23, 22, 21, 3, 0] ?_))
    show TrC _ _ _ _ [(5, _), (24, _), (23, _), (22, _), (21, _), (3, _), (0, _)] _ _
    -- region 6: deadline.go:150
    have hti := hX _ (gt_mem (L := X) hi0 (by omega))
    have hfl := flatT_le (X.take i.toNat) (fun t ht => hX t (List.mem_of_mem_take ht))
    have htl := List.length_take_le i.toNat X
    have hpl : (intM now ++ numI last ++ numI X.length ++ (X.take i.toNat).flatMap thB).length ≤ 8000 := by simp only [List.length_append]; omega
    refine tr_region ?_
    refine tr_val (ov_move rfl rfl) rfl rfl rfl ?_
    refine tr_val (ov_fieldAddr rfl Try.underlying30 rfl (Try.sizeOf28 _) (by decide) rfl) rfl rfl rfl ?_
    refine tr_val (ov_load_blk H.get0 rfl (Try.isAgg28 _) rfl rfl rfl) rfl rfl rfl ?_
    refine tr_val (ov_fieldAddr rfl Try.underlying30 rfl (Try.sizeOf28 _) (by decide) rfl) rfl rfl rfl ?_
    refine tr_val (ov_load_blk H.get0 rfl (Try.isAgg28 _) rfl rfl rfl) rfl rfl rfl ?_
    refine tr_val (ov_fieldAddr rfl Try.underlying30 rfl (Try.sizeOf2 _) (by decide) rfl) rfl rfl rfl ?_
    refine tr_val (ov_load_blk H.get0 rfl (Try.isAgg2 _) rfl rfl rfl) rfl rfl rfl ?_
    refine tr_val (ov_conv rfl Try.underlying2 Try.underlying28 rfl (wu64 (by omega))) rfl rfl rfl ?_
    refine tr_buildSlice H rfl Try.underlying174 info28 rfl (fun ρ k => bs3 k rfl rfl rfl) (by decide) (by decide) (fill_U64_3 _ _ _) rfl rfl rfl ?_
    intro b35 w350 hb35 H
    have H := H.upd0 (upd_vec_of_blk (L := ([(gt X i).id, (gt X i).gen, (gt X i).due] : List Int)) (enc := encU64) (sz := 1) H.get0 rfl lenU64 (Nat.le_of_ble_eq_true rfl))
    have H := H.upd0 (upd_rdr_of_vec H.get0 lenU64 (by decide))
    have H := H.top3.top3
    refine tr_call (wNum_c wr A4 c4 (intM now ++ numI last ++ numI X.length ++ (X.take i.toNat).flatMap thB) (some ⟨b35, 0, none⟩) 3 [(gt X i).id, (gt X i).gen, (gt X i).due] _ (H.own_ [_, _, _] (rs := [_, _])) (by omega) (Nat.le_of_ble_eq_true rfl) (by simp; omega)) rfl rfl rfl Try.call82 rfl rfl rfl ?_
    rintro _ w7 ⟨A6, c6, HC⟩
    have H := H.call3 HC
    rw [thB_flat] at H
    refine tr_nil (hK8 _ _ (TrC.keep [5, 24, 23, 22, 21, 3, 0] ?_))
    show TrC _ _ _ _ [(5, _), (24, _), (23, _), (22, _), (21, _), (3, _), (0, _)] _ _
    -- region 7: deadline.go:149
    refine tr_region ?_
    refine tr_val (ov_add rfl rfl rfl (w64 (by omega))) rfl rfl rfl ?_
    refine tr_val (ov_move rfl rfl) rfl rfl rfl ?_
    skip
    exact tr_nil (hK5 (⟨i + 1, A6, c6⟩) _ _ (⟨by omega, by omega, by rw [← flatT_snoc hi0 (by omega)]; exact H.drop2⟩) (by (dsimp only; omega)) (Sub.cons rfl (Sub.cons rfl (Sub.cons rfl (Sub.cons rfl (Sub.cons rfl Sub.nil))))))
  · skip
    refine tr_exit (post_ret0 (.inl rfl) rfl  ?_)
    have e : X.take i.toNat = X := List.take_of_length_le (by omega)
    rw [e] at H
    exact ⟨A4, c4, H.drop2⟩

/-! curfew/curfewref01.Num -/
set_option maxRecDepth 20000 in
theorem rrNum_c (n : Nat) (hn : n < 2 ^ 64) (w : World) : Does Try.prog 88 #[.int .u64 (n : Nat)] w (fun v w' => ∃ A' c', v = .slice A' (numM 0 n).length c' ∧ SH w noBlocks [vec A' c' 5 1 encU8 (numM 0 n)] w') := by
  have h8 := bytesN_8 hn
  refine does_enter1 Try.func88 rfl Try.ntmps88 rfl ?_
  have H := SH.start w noBlocks
  refine tr_seq (fun K1 hK1 => ?_)
  -- region 0: ref.go:5
  refine tr_region ?_
  refine tr_val (ov_assign rfl rfl) rfl rfl rfl ?_
  refine tr_nil (hK1 _ _ (TrC.keep [2, 0] ?_))
  show TrC _ _ _ _ [(2, _), (0, _)] _ _
  refine tr_seq (fun K2 hK2 => ?_)
  -- region 1: ref.go:6
  have H := H.addNil 5 1 encU8
  refine tr_region ?_
  refine tr_val (ov_assign rfl rfl) rfl rfl rfl ?_
  refine tr_nil (hK2 _ _ (TrC.keep [3, 2, 0] ?_))
  show TrC _ _ _ _ [(3, _), (2, _), (0, _)] _ _
  refine tr_seq (fun K3 hK3 => ?_)
  refine tr_block ?_
  refine tr_loop_ (X := Nat × List Int × Option Addr × Nat) [2] (fun ⟨x, M, A2, c2⟩ => [(0, .int .u64 (x : Nat)), (3, .slice A2 M.length c2)]) (fun ⟨x, M, A2, c2⟩ w' => bytesN n = bytesN x ++ M ∧ x ≤ n ∧ SH w noBlocks [vec A2 c2 5 1 encU8 (M)] w') (fun ⟨x, M, A2, c2⟩ => x) (⟨n, [], none, 0⟩) (Sub.cons rfl (Sub.cons rfl (Sub.cons rfl Sub.nil))) (⟨by simp, by omega, H⟩) ?_
  rintro ⟨x, M, A2, c2⟩ w1 ⟨hbm, hxn, H⟩ K4 hK4
  show TrC _ _ _ _ [(0, _), (3, _), (2, _)] _ _
  refine tr_seq (fun K5 hK5 => ?_)
  refine tr_seq (fun K6 hK6 => ?_)
  -- region 2: ref.go:7
  refine tr_region ?_
  refine tr_val (ov_move rfl rfl) rfl rfl rfl ?_
  refine tr_val (ov_gtr rfl rfl rfl) rfl rfl rfl ?_
  refine tr_nil (hK6 _ _ (TrC.keep [5, 0, 3, 2] ?_))
  show TrC _ _ _ _ [(5, _), (0, _), (3, _), (2, _)] _ _
  refine tr_cond rfl (fun c5 => ?_) (fun c5 => ?_)
  · skip
    refine tr_skip (hK5 _ _ (TrC.keep [5, 0, 3, 2] ?_))
    show TrC _ _ _ _ [(5, _), (0, _), (3, _), (2, _)] _ _
    refine tr_block ?_
    refine tr_seq (fun K7 hK7 => ?_)
    -- region 3: ref.go:8
    have hbl := bytesN_len (x := x) (by omega)
    have hml : M.length ≤ 7 := by have := congrArg List.length hbm; rw [List.length_append] at this; omega
    refine tr_region ?_
    refine tr_val (ov_move rfl rfl) rfl rfl rfl ?_
    refine tr_val (ov_rem rfl rfl rfl (by omega) (show ((x : Nat) : Int).tmod 256 = ((x % 256 : Nat) : Int) from rfl)) rfl rfl rfl ?_
    refine tr_val (ov_conv rfl Try.underlying28 Try.underlying5 rfl (wu8 (by omega))) rfl rfl rfl ?_
    refine tr_buildSlice H rfl Try.underlying98 info5 rfl (fun ρ k => bs1 k rfl) (by decide) (by decide) (fill_U8_1 _) rfl rfl rfl ?_
    intro b9 wb90 hb9 H
    have H := H.upd0 (upd_vec_of_blk (L := ([((x % 256 : Nat) : Int)] : List Int)) (enc := encU8) (sz := 1) H.get0 rfl lenU8 (Nat.le_of_ble_eq_true rfl))
    refine tr_val (ov_move rfl rfl) rfl rfl rfl ?_
    refine tr_append (M := M) (L := [((x % 256 : Nat) : Int)]) H.get0 (vec_rd H.get1 lenU8 (by decide)) rfl rfl rfl Try.underlying98 info5 rfl rfl (show Try.t5.bytes = 1 from rfl) rfl (by decide) lenU8 oneU8 (by simp; omega) (by simp [maxLen]; omega) rfl rfl rfl ?_
    intro A3 c3 w30 U; have H := H.upd0 U; clear U
    have H := H.drop1
    refine tr_val (ov_assign rfl rfl) rfl rfl rfl ?_
    refine tr_nil (hK7 _ _ (TrC.keep [3, 5, 0, 2] ?_))
    show TrC _ _ _ _ [(3, _), (5, _), (0, _), (2, _)] _ _
    -- region 4: ref.go:9
    refine tr_region ?_
    refine tr_val (ov_move rfl rfl) rfl rfl rfl ?_
    refine tr_val (ov_quo rfl rfl rfl (by omega) (show IntKind.u64.wrap (((x : Nat) : Int).tdiv 256) = ((x / 256 : Nat) : Int) from (show IntKind.u64.wrap ((x / 256 : Nat) : Int) = ((x / 256 : Nat) : Int) from wu64 (by omega)))) rfl rfl rfl ?_
    refine tr_val (ov_assign rfl rfl) rfl rfl rfl ?_
    skip
    exact tr_nil (hK4 (⟨(x / 256), ([((x % 256 : Nat) : Int)] ++ M), A3, c3⟩) _ _ (⟨by rw [hbm, bytesN_pos (by omega), List.append_assoc], by omega, H⟩) (by (dsimp only; omega)) (Sub.cons rfl (Sub.cons rfl (Sub.cons rfl Sub.nil))))
  · skip
    refine tr_exit (hK3 _ _ (TrC.keep [5, 0, 3, 2] ?_))
    show TrC _ _ _ _ [(5, _), (0, _), (3, _), (2, _)] _ _
    refine tr_seq (fun K8 hK8 => ?_)
    -- region 5: ref.go:11
    have hx0 : x = 0 := by omega
    subst hx0
    rw [bytesN_zero, List.nil_append] at hbm
    subst hbm
    refine tr_region ?_
    refine tr_val (ov_move rfl rfl) rfl rfl rfl ?_
    refine tr_val (ov_len rfl rfl Try.underlying98 rfl) rfl rfl rfl ?_
    refine tr_val (ov_conv rfl Try.underlying3 Try.underlying5 rfl (wu8 (by omega))) rfl rfl rfl ?_
    refine tr_buildSlice H rfl Try.underlying98 info5 rfl (fun ρ k => bs1 k rfl) (by decide) (by decide) (fill_U8_1 _) rfl rfl rfl ?_
    intro b17 wb170 hb17 H
    have H := H.upd0 (upd_vec_of_blk (L := ([((bytesN n).length : Int)] : List Int)) (enc := encU8) (sz := 1) H.get0 rfl lenU8 (Nat.le_of_ble_eq_true rfl))
    refine tr_val (ov_move rfl rfl) rfl rfl rfl ?_
    refine tr_append (M := bytesN n) (L := [((bytesN n).length : Int)]) H.get0 (vec_rd H.get1 lenU8 (by decide)) rfl rfl rfl Try.underlying98 info5 rfl rfl (show Try.t5.bytes = 1 from rfl) rfl (by decide) lenU8 oneU8 (by simp; omega) (by simp [maxLen]; omega) rfl rfl rfl ?_
    intro A5 c5 w50 U; have H := H.upd0 U; clear U
    refine tr_val (ov_assign rfl rfl) rfl rfl rfl ?_
    refine tr_nil (hK8 _ _ (TrC.keep [2, 5, 0, 3] ?_))
    show TrC _ _ _ _ [(2, _), (5, _), (0, _), (3, _)] _ _
    refine tr_ret (post_ret1 (.inr rfl) rfl rfl ?_)
    have e : numM 0 n = [((bytesN n).length : Int)] ++ bytesN n := by unfold numM; rw [Int.zero_add]; rfl
    rw [e]
    exact ⟨A5, c5, rfl, H.drop1⟩

theorem rrNum_i (x : Int) (hx : 0 ≤ x ∧ x ≤ 18446744073709551615) (w : World) : Does Try.prog 88 #[.int .u64 x] w (fun v w' => ∃ A' c', v = .slice A' (numI x).length c' ∧ SH w noBlocks [vec A' c' 5 1 encU8 (numI x)] w') := by
  obtain ⟨n, rfl⟩ := Int.eq_ofNat_of_zero_le hx.1
  exact rrNum_c n (by omega) w
theorem intM_neg {x : Int} (h : x < 0) : intM x = (numI (-1 - x)).set (0 : Int).toNat (gt (numI (-1 - x)) 0 + 128) := by
  unfold intM numI numM; rw [if_pos h]
  rw [gt_eq (by decide) (by simp)]
  simp; omega
theorem numI_head {x : Int} (h : 0 ≤ x ∧ x ≤ 18446744073709551615) : 0 < (numI x).length ∧ 0 ≤ gt (numI x) 0 ∧ gt (numI x) 0 ≤ 8 := by
  have h8 := bytesN_8 (n := x.toNat) (by omega)
  refine ⟨by unfold numI numM; simp, ?_⟩
  unfold numI numM
  rw [gt_eq (by decide) (by simp)]
  simp; omega

/-! curfew/curfewref01.Int -/
set_option maxRecDepth 20000 in
theorem rrInt_c (x : Int) (hx : -9223372036854775808 ≤ x ∧ x ≤ 9223372036854775807) (w : World) : Does Try.prog 87 #[.int .i64 x] w (fun v w' => ∃ A' c', v = .slice A' (intM x).length c' ∧ SH w noBlocks [vec A' c' 5 1 encU8 (intM x)] w') := by
  refine does_enter1 Try.func87 rfl Try.ntmps87 rfl ?_
  have H := SH.start w noBlocks
  refine tr_seq (fun K1 hK1 => ?_)
  -- region 0: ref.go:15
  refine tr_region ?_
  refine tr_val (ov_assign rfl rfl) rfl rfl rfl ?_
  refine tr_nil (hK1 _ _ (TrC.keep [2, 0] ?_))
  show TrC _ _ _ _ [(2, _), (0, _)] _ _
  refine tr_seq (fun K2 hK2 => ?_)
  refine tr_seq (fun K3 hK3 => ?_)
  -- region 1: ref.go:16
  refine tr_region ?_
  refine tr_val (ov_move rfl rfl) rfl rfl rfl ?_
  refine tr_val (ov_geq rfl rfl rfl) rfl rfl rfl ?_
  refine tr_nil (hK3 _ _ (TrC.keep [5, 2, 0] ?_))
  show TrC _ _ _ _ [(5, _), (2, _), (0, _)] _ _
  refine tr_cond rfl (fun c5 => ?_) (fun c5 => ?_)
  · skip
    refine tr_seq (fun K4 hK4 => ?_)
    -- region 2: ref.go:17
    refine tr_region ?_
    refine tr_val (ov_move rfl rfl) rfl rfl rfl ?_
    refine tr_val (ov_conv rfl Try.underlying2 Try.underlying28 rfl (wu64 (by omega))) rfl rfl rfl ?_
    refine tr_call (rrNum_i x (by omega) _) rfl rfl rfl Try.call88 rfl rfl rfl ?_
    rintro _ w1 ⟨A3, c3, rfl, HC⟩
    have H := H.call0r HC
    refine tr_val (ov_assign rfl rfl) rfl rfl rfl ?_
    refine tr_nil (hK4 _ _ (TrC.keep [2, 5, 0] ?_))
    show TrC _ _ _ _ [(2, _), (5, _), (0, _)] _ _
    refine tr_ret (post_ret1 (.inr rfl) rfl rfl ?_)
    rw [intM_pos (by omega)]; exact ⟨A3, c3, rfl, H⟩
  · skip
    refine tr_skip (hK2 _ _ (TrC.keep [5, 2, 0] ?_))
    show TrC _ _ _ _ [(5, _), (2, _), (0, _)] _ _
    refine tr_seq (fun K5 hK5 => ?_)
    -- region 3: ref.go:19
    refine tr_region ?_
    refine tr_val (ov_move rfl rfl) rfl rfl rfl ?_
    refine tr_val (ov_sub rfl rfl rfl (w64 (by omega))) rfl rfl rfl ?_
    refine tr_val (ov_conv rfl Try.underlying2 Try.underlying28 rfl (wu64 (by omega))) rfl rfl rfl ?_
    refine tr_call (rrNum_i (-1 - x) (by omega) _) rfl rfl rfl Try.call88 rfl rfl rfl ?_
    rintro _ w2 ⟨A3, c3, rfl, HC⟩
    have H := H.call0r HC
    obtain ⟨hh1, hh2, hh3⟩ := numI_head (x := -1 - x) (by omega)
    refine tr_val (ov_assign rfl rfl) rfl rfl rfl ?_
    refine tr_nil (hK5 _ _ (TrC.keep [3, 5, 2, 0] ?_))
    show TrC _ _ _ _ [(3, _), (5, _), (2, _), (0, _)] _ _
    refine tr_seq (fun K6 hK6 => ?_)
    -- region 4: ref.go:20
    refine tr_region ?_
    refine tr_val (ov_move rfl rfl) rfl rfl rfl ?_
    refine tr_val (ov_move rfl rfl) rfl rfl rfl ?_
    refine tr_val (ov_indexAddrR (vec_rd H.get0 lenU8 (by decide)) rfl Try.underlying98 (Try.sizeOf5 _) rfl rfl (by omega) (by omega)) rfl rfl rfl ?_
    refine tr_val (ld_U8 (vec_rd H.get0 lenU8 (by decide)) rfl (Try.isAgg5 _) rfl (by omega) (by omega)) rfl rfl rfl ?_
    refine tr_val (ov_add rfl rfl rfl (wu8 (by omega))) rfl rfl rfl ?_
    refine tr_val (ov_indexAddrR (vec_rd H.get0 lenU8 (by decide)) rfl Try.underlying98 (Try.sizeOf5 _) rfl rfl (by omega) (by omega)) rfl rfl rfl ?_
    refine tr_store_vec (i := 0) (k := 0) (gt (numI (-1 - x)) 0 + 128) [.int .u8 (gt (numI (-1 - x)) 0 + 128)] H.get0 lenU8 rfl rfl rfl rfl (by omega) (by omega) (Try.sizeOf5 _) (Nat.le_refl _) (List.cons_ne_nil _ _) rfl rfl rfl rfl rfl ?_
    intro w9 U; have H := H.upd0 U; clear U
    refine tr_nil (hK6 _ _ (TrC.keep [3, 5, 2, 0] ?_))
    show TrC _ _ _ _ [(3, _), (5, _), (2, _), (0, _)] _ _
    refine tr_seq (fun K7 hK7 => ?_)
    -- region 5: ref.go:21
    refine tr_region ?_
    refine tr_val (ov_move rfl rfl) rfl rfl rfl ?_
    refine tr_val (ov_assign rfl rfl) rfl rfl rfl ?_
    refine tr_nil (hK7 _ _ (TrC.keep [2, 3, 5, 0] ?_))
    show TrC _ _ _ _ [(2, _), (3, _), (5, _), (0, _)] _ _
    refine tr_ret (post_ret1 (.inr rfl) rfl rfl ?_)
    have e := intM_neg (x := x) (by omega)
    rw [← e] at H
    have e2 : (intM x).length = (numI (-1 - x)).length := by rw [e, List.length_set]
    exact ⟨A3, c3, by rw [e2], H⟩

/-! curfew/curfewref13.Put -/
set_option maxRecDepth 20000 in
theorem rPut_c (B : Option Addr) (cB : Nat) (X : List Thing) (now last : Int) (w : World) (hR : Rd w B 4 ((zR X).map encRThing)) (hX : ∀ t, t ∈ X → (0 ≤ t.id ∧ t.id ≤ 18446744073709551615) ∧ (0 ≤ t.gen ∧ t.gen ≤ 18446744073709551615) ∧ (0 ≤ t.due ∧ t.due ≤ 9223372036854775807)) (hl : X.length ≤ 256) (hn : -9223372036854775808 ≤ now ∧ now ≤ 9223372036854775807) (hla : 0 ≤ last ∧ last ≤ 18446744073709551615) : Does Try.prog 48 #[.agg #[.int .i64 now, .int .u64 last, .slice B ((zR X)).length cB]] w (fun v w' => ∃ A' c', v = .slice A' (putB now last X).length c' ∧ SH w noBlocks [vec A' c' 5 1 encU8 (putB now last X)] w') := by
  have g1 := intM_len hn
  have g2 := numI_len hla
  have g3 := numI_len (x := (X.length : Int)) (by omega)
  have hzl := zR_len X
  have g4 := numI_len (x := ((zR X).length : Int)) (by omega)
  refine does_enter1 Try.func48 rfl Try.ntmps48 rfl ?_
  have H := SH.start w noBlocks
  refine tr_seq (fun K1 hK1 => ?_)
  -- region 0: ref.go:90
  refine tr_region ?_
  refine tr_box H rfl rfl rfl rfl rfl rfl ?_
  intro b1 w1 hb1 H
  refine tr_val (ov_assign rfl rfl) rfl rfl rfl ?_
  refine tr_nil (hK1 _ _ (TrC.keep [2, 1] ?_))
  show TrC _ _ _ _ [(2, _), (1, _)] _ _
  refine tr_seq (fun K2 hK2 => ?_)
  -- region 1: ref.go:91
  refine tr_region ?_
  refine tr_val (ov_fieldAddr rfl Try.underlying85 rfl (Try.sizeOf2 _) (by decide) rfl) rfl rfl rfl ?_
  refine tr_val (ov_load_blk H.get0 rfl (Try.isAgg2 _) rfl rfl rfl) rfl rfl rfl ?_
  refine tr_call (rrInt_c now hn _) rfl rfl rfl Try.call87 rfl rfl rfl ?_
  rintro _ w2 ⟨A1, c1, rfl, HC⟩
  have H := H.call0r HC
  refine tr_val (ov_assign rfl rfl) rfl rfl rfl ?_
  refine tr_nil (hK2 _ _ (TrC.keep [3, 2, 1] ?_))
  show TrC _ _ _ _ [(3, _), (2, _), (1, _)] _ _
  refine tr_seq (fun K3 hK3 => ?_)
  -- region 2: ref.go:92
  refine tr_region ?_
  refine tr_val (ov_move rfl rfl) rfl rfl rfl ?_
  refine tr_val (ov_fieldAddr rfl Try.underlying85 rfl (Try.sizeOf28 _) (by decide) rfl) rfl rfl rfl ?_
  refine tr_val (ov_load_blk H.get1 rfl (Try.isAgg28 _) rfl rfl rfl) rfl rfl rfl ?_
  refine tr_call (rrNum_i last hla _) rfl rfl rfl Try.call88 rfl rfl rfl ?_
  rintro _ w3 ⟨A2, c2, rfl, HC⟩
  have H := H.call0r HC
  refine tr_append (M := numI last) (L := intM now) H.get1 (vec_rd H.get0 lenU8 (by decide)) rfl rfl rfl Try.underlying98 info5 rfl rfl (show Try.t5.bytes = 1 from rfl) rfl (by decide) lenU8 oneU8 (by (try simp only [List.length_append]); omega) (by unfold maxLen; (try simp only [List.length_append]); omega) rfl rfl rfl ?_
  intro A3 c3 w30 U; have H := H.upd1 U; clear U
  have H := H.drop0
  refine tr_val (ov_assign rfl rfl) rfl rfl rfl ?_
  refine tr_nil (hK3 _ _ (TrC.keep [3, 2, 1] ?_))
  show TrC _ _ _ _ [(3, _), (2, _), (1, _)] _ _
  refine tr_seq (fun K4 hK4 => ?_)
  -- region 3: ref.go:93
  refine tr_region ?_
  refine tr_val (ov_move rfl rfl) rfl rfl rfl ?_
  refine tr_val (ov_fieldAddr rfl Try.underlying85 rfl (Try.sizeOf46 _) (by decide) rfl) rfl rfl rfl ?_
  refine tr_val (ov_load_blk H.get1 rfl (Try.isAgg46 _) rfl rfl rfl) rfl rfl rfl ?_
  refine tr_val (ov_len rfl rfl Try.underlying46 rfl) rfl rfl rfl ?_
  refine tr_val (ov_conv rfl Try.underlying3 Try.underlying28 rfl (wu64 (by omega))) rfl rfl rfl ?_
  refine tr_call (rrNum_i ((zR X).length : Int) (by omega) _) rfl rfl rfl Try.call88 rfl rfl rfl ?_
  rintro _ w4 ⟨A4, c4, rfl, HC⟩
  have H := H.call0r HC
  refine tr_append (M := numI (zR X).length) (L := (intM now ++ numI last)) H.get1 (vec_rd H.get0 lenU8 (by decide)) rfl rfl rfl Try.underlying98 info5 rfl rfl (show Try.t5.bytes = 1 from rfl) rfl (by decide) lenU8 oneU8 (by (try simp only [List.length_append]); omega) (by unfold maxLen; (try simp only [List.length_append]); omega) rfl rfl rfl ?_
  intro A5 c5 w50 U; have H := H.upd1 U; clear U
  have H := H.drop0
  have e0 : intM now ++ numI last ++ numI (zR X).length = (intM now ++ numI last ++ numI X.length ++ (X.take (0 : Int).toNat).flatMap thB) := by rw [hzl]; simp
  rw [e0] at H ⊢
  refine tr_val (ov_assign rfl rfl) rfl rfl rfl ?_
  refine tr_nil (hK4 _ _ (TrC.keep [3, 2, 1] ?_))
  show TrC _ _ _ _ [(3, _), (2, _), (1, _)] _ _
  refine tr_seq (fun K5 hK5 => ?_)
  refine tr_seq (fun K6 hK6 => ?_)
  -- region 4: ref.go:94
  refine tr_region ?_
  refine tr_val (ov_assign rfl rfl) rfl rfl rfl ?_
  refine tr_nil (hK6 _ _ (TrC.keep [4, 3, 2, 1] ?_))
  show TrC _ _ _ _ [(4, _), (3, _), (2, _), (1, _)] _ _
  refine tr_block ?_
  refine tr_loop_ (X := Int × Option Addr × Nat) [2, 1] (fun ⟨i, A6, c6⟩ => [(4, .int .i64 i), (3, .slice A6 (intM now ++ numI last ++ numI X.length ++ (X.take i.toNat).flatMap thB).length c6)]) (fun ⟨i, A6, c6⟩ w' => 0 ≤ i ∧ i ≤ X.length ∧ SH w noBlocks [vec A6 c6 5 1 encU8 ((intM now ++ numI last ++ numI X.length ++ (X.take i.toNat).flatMap thB)), blk b1 85 [.int .i64 now, .int .u64 last, .slice B ((zR X)).length cB]] w') (fun ⟨i, A6, c6⟩ => (X.length - i).toNat) (⟨0, A5, c5⟩) (Sub.cons rfl (Sub.cons rfl (Sub.cons rfl (Sub.cons rfl Sub.nil)))) (⟨by omega, by omega, H⟩) ?_
  rintro ⟨i, A6, c6⟩ w5 ⟨hi0, hi1, H⟩ K7 hK7
  show TrC _ _ _ _ [(4, _), (3, _), (2, _), (1, _)] _ _
  refine tr_seq (fun K8 hK8 => ?_)
  refine tr_seq (fun K9 hK9 => ?_)
  -- region 5: ref.go:94
  refine tr_region ?_
  refine tr_val (ov_move rfl rfl) rfl rfl rfl ?_
  refine tr_val (ov_fieldAddr rfl Try.underlying85 rfl (Try.sizeOf46 _) (by decide) rfl) rfl rfl rfl ?_
  refine tr_val (ov_load_blk H.get1 rfl (Try.isAgg46 _) rfl rfl rfl) rfl rfl rfl ?_
  refine tr_val (ov_len rfl rfl Try.underlying46 rfl) rfl rfl rfl ?_
  refine tr_val (ov_lss rfl rfl rfl) rfl rfl rfl ?_
  refine tr_nil (hK9 _ _ (TrC.keep [24, 4, 3, 2, 1] ?_))
  show TrC _ _ _ _ [(24, _), (4, _), (3, _), (2, _), (1, _)] _ _
  refine tr_cond rfl (fun c24 => ?_) (fun c24 => ?_)
  · skip
    refine tr_skip (hK8 _ _ (TrC.keep [24, 4, 3, 2, 1] ?_))
    show TrC _ _ _ _ [(24, _), (4, _), (3, _), (2, _), (1, _)] _ _
    refine tr_seq (fun K10 hK10 => ?_)
    refine tr_block ?_
    refine tr_seq (fun K11 hK11 => ?_)
    -- region 7: ref.go:95
    have hti := hX _ (gt_mem (L := X) hi0 (by omega))
    have hfl := flatT_le (X.take i.toNat) (fun t ht => hX t (List.mem_of_mem_take ht))
    have htl := List.length_take_le i.toNat X
    have k1 := numI_len hti.1
    have k2 := numI_len hti.2.1
    have k3 := numI_len (x := (gt X i).due) (by omega)
    have e1 : (gt (zR X) i).id = (gt X i).id := by rw [zR_gt hi0 (by omega)]; rfl
    have e2 : (gt (zR X) i).gen = (gt X i).gen := by rw [zR_gt hi0 (by omega)]; rfl
    have e3 : (gt (zR X) i).due = (gt X i).due := by rw [zR_gt hi0 (by omega)]; rfl
    refine tr_region ?_
    refine tr_val (ov_move rfl rfl) rfl rfl rfl ?_
    refine tr_val (ov_fieldAddr rfl Try.underlying85 rfl (Try.sizeOf46 _) (by decide) rfl) rfl rfl rfl ?_
    refine tr_val (ov_load_blk H.get1 rfl (Try.isAgg46 _) rfl rfl rfl) rfl rfl rfl ?_
    refine tr_val (ov_move rfl rfl) rfl rfl rfl ?_
    refine tr_val (ov_indexAddrR (H.rd0 hR) rfl Try.underlying46 (Try.sizeOf59 _) rfl rfl (by omega) (by omega)) rfl rfl rfl ?_
    refine tr_val (ov_fieldAddr rfl Try.underlying59 rfl (Try.sizeOf28 _) (by decide) rfl) rfl rfl rfl ?_
    refine tr_val (ld_RThing_0 (H.rd0 hR) rfl (Try.isAgg28 _) rfl (by omega) (by omega)) rfl rfl rfl ?_
    refine tr_call (rrNum_i (gt (zR X) i).id (by omega) _) rfl rfl rfl Try.call88 rfl rfl rfl ?_
    rintro _ w6 ⟨A1', c1', rfl, HC⟩
    have H := H.call0r HC
    rw [e1] at H ⊢
    refine tr_append (M := numI (gt X i).id) (L := (intM now ++ numI last ++ numI X.length ++ (X.take i.toNat).flatMap thB)) H.get1 (vec_rd H.get0 lenU8 (by decide)) rfl rfl rfl Try.underlying98 info5 rfl rfl (show Try.t5.bytes = 1 from rfl) rfl (by decide) lenU8 oneU8 (by (try simp only [List.length_append]); omega) (by unfold maxLen; (try simp only [List.length_append]); omega) rfl rfl rfl ?_
    intro A7 c7 w70 U; have H := H.upd1 U; clear U
    have H := H.drop0
    refine tr_val (ov_assign rfl rfl) rfl rfl rfl ?_
    refine tr_nil (hK11 _ _ (TrC.keep [3, 24, 4, 2, 1] ?_))
    show TrC _ _ _ _ [(3, _), (24, _), (4, _), (2, _), (1, _)] _ _
    refine tr_seq (fun K12 hK12 => ?_)
    -- region 8: ref.go:96
    refine tr_region ?_
    refine tr_val (ov_move rfl rfl) rfl rfl rfl ?_
    refine tr_val (ov_fieldAddr rfl Try.underlying85 rfl (Try.sizeOf46 _) (by decide) rfl) rfl rfl rfl ?_
    refine tr_val (ov_load_blk H.get1 rfl (Try.isAgg46 _) rfl rfl rfl) rfl rfl rfl ?_
    refine tr_val (ov_move rfl rfl) rfl rfl rfl ?_
    refine tr_val (ov_indexAddrR (H.rd0 hR) rfl Try.underlying46 (Try.sizeOf59 _) rfl rfl (by omega) (by omega)) rfl rfl rfl ?_
    refine tr_val (ov_fieldAddr rfl Try.underlying59 rfl (Try.sizeOf28 _) (by decide) rfl) rfl rfl rfl ?_
    refine tr_val (ld_RThing_1 (H.rd0 hR) rfl (Try.isAgg28 _) rfl (by omega) (by omega)) rfl rfl rfl ?_
    refine tr_call (rrNum_i (gt (zR X) i).gen (by omega) _) rfl rfl rfl Try.call88 rfl rfl rfl ?_
    rintro _ w7 ⟨A2', c2', rfl, HC⟩
    have H := H.call0r HC
    rw [e2] at H ⊢
    refine tr_append (M := numI (gt X i).gen) (L := ((intM now ++ numI last ++ numI X.length ++ (X.take i.toNat).flatMap thB) ++ numI (gt X i).id)) H.get1 (vec_rd H.get0 lenU8 (by decide)) rfl rfl rfl Try.underlying98 info5 rfl rfl (show Try.t5.bytes = 1 from rfl) rfl (by decide) lenU8 oneU8 (by (try simp only [List.length_append]); omega) (by unfold maxLen; (try simp only [List.length_append]); omega) rfl rfl rfl ?_
    intro A8 c8 w80 U; have H := H.upd1 U; clear U
    have H := H.drop0
    refine tr_val (ov_assign rfl rfl) rfl rfl rfl ?_
    refine tr_nil (hK12 _ _ (TrC.keep [3, 24, 4, 2, 1] ?_))
    show TrC _ _ _ _ [(3, _), (24, _), (4, _), (2, _), (1, _)] _ _
    -- region 9: ref.go:97
    refine tr_region ?_
    refine tr_val (ov_move rfl rfl) rfl rfl rfl ?_
    refine tr_val (ov_fieldAddr rfl Try.underlying85 rfl (Try.sizeOf46 _) (by decide) rfl) rfl rfl rfl ?_
    refine tr_val (ov_load_blk H.get1 rfl (Try.isAgg46 _) rfl rfl rfl) rfl rfl rfl ?_
    refine tr_val (ov_move rfl rfl) rfl rfl rfl ?_
    refine tr_val (ov_indexAddrR (H.rd0 hR) rfl Try.underlying46 (Try.sizeOf59 _) rfl rfl (by omega) (by omega)) rfl rfl rfl ?_
    refine tr_val (ov_fieldAddr rfl Try.underlying59 rfl (Try.sizeOf2 _) (by decide) rfl) rfl rfl rfl ?_
    refine tr_val (ld_RThing_2 (H.rd0 hR) rfl (Try.isAgg2 _) rfl (by omega) (by omega)) rfl rfl rfl ?_
    refine tr_val (ov_conv rfl Try.underlying2 Try.underlying28 rfl (wu64 (by omega))) rfl rfl rfl ?_
    refine tr_call (rrNum_i (gt (zR X) i).due (by omega) _) rfl rfl rfl Try.call88 rfl rfl rfl ?_
    rintro _ w8 ⟨A3', c3', rfl, HC⟩
    have H := H.call0r HC
    rw [e3] at H ⊢
    refine tr_append (M := numI (gt X i).due) (L := ((intM now ++ numI last ++ numI X.length ++ (X.take i.toNat).flatMap thB) ++ numI (gt X i).id ++ numI (gt X i).gen)) H.get1 (vec_rd H.get0 lenU8 (by decide)) rfl rfl rfl Try.underlying98 info5 rfl rfl (show Try.t5.bytes = 1 from rfl) rfl (by decide) lenU8 oneU8 (by (try simp only [List.length_append]); omega) (by unfold maxLen; (try simp only [List.length_append]); omega) rfl rfl rfl ?_
    intro A9 c9 w90 U; have H := H.upd1 U; clear U
    have H := H.drop0
    refine tr_val (ov_assign rfl rfl) rfl rfl rfl ?_
    refine tr_nil (hK10 _ _ (TrC.keep [3, 24, 4, 2, 1] ?_))
    show TrC _ _ _ _ [(3, _), (24, _), (4, _), (2, _), (1, _)] _ _
    -- region 6: ref.go:94
    refine tr_region ?_
    refine tr_val (ov_move rfl rfl) rfl rfl rfl ?_
    refine tr_val (ov_add rfl rfl rfl (w64 (by omega))) rfl rfl rfl ?_
    refine tr_val (ov_assign rfl rfl) rfl rfl rfl ?_
    have e5 : (intM now ++ numI last ++ numI X.length ++ (X.take i.toNat).flatMap thB) ++ numI (gt X i).id ++ numI (gt X i).gen ++ numI (gt X i).due = (intM now ++ numI last ++ numI X.length ++ (X.take (i + 1).toNat).flatMap thB) := by rw [← flatT_snoc hi0 (by omega)]; unfold thB; rw [← List.append_assoc, ← List.append_assoc]
    exact tr_nil (hK7 (⟨i + 1, A9, c9⟩) _ _ (⟨by omega, by omega, by rw [← e5]; exact H⟩) (by (dsimp only; omega)) (Sub.cons rfl (Sub.consE rfl (by rw [← e5]) (Sub.cons rfl (Sub.cons rfl Sub.nil)))))
  · skip
    refine tr_exit (hK5 _ _ (TrC.keep [24, 4, 3, 2, 1] ?_))
    show TrC _ _ _ _ [(24, _), (4, _), (3, _), (2, _), (1, _)] _ _
    refine tr_seq (fun K13 hK13 => ?_)
    -- region 10: ref.go:99
    refine tr_region ?_
    refine tr_val (ov_move rfl rfl) rfl rfl rfl ?_
    refine tr_val (ov_assign rfl rfl) rfl rfl rfl ?_
    refine tr_nil (hK13 _ _ (TrC.keep [2, 24, 4, 3, 1] ?_))
    show TrC _ _ _ _ [(2, _), (24, _), (4, _), (3, _), (1, _)] _ _
    refine tr_ret (post_ret1 (.inr rfl) rfl rfl ?_)
    have e : X.take i.toNat = X := List.take_of_length_le (by omega)
    rw [e] at H ⊢
    exact ⟨A6, c6, rfl, H.drop1⟩

end Go.Proofs.Ytblipnjjgbggiaa
