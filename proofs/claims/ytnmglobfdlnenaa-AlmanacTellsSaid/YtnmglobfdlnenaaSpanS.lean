/- slices.SortFunc at spans, ordered by their beginnings. Conditions: none. -/
import Derived.Shelf.SlSortCmp.NoneTotal
import Derived.Ground.SlsfProg
import Derived.Test.YtnmglobfdlnenaaSrt
import Derived.Test.YtnmglobfdlnenaaSp
import Derived.Test.YtnmglobfdlnenaaFacts
namespace Go.Proofs
open Go.Shelf Go.RowKit Go.Lib Go.Sort
def Try.sortSpan_ren : Go.Shelf.Ren := ⟨fun | 6 => 63 | 15 => 73 | 14 => 72 | 28 => 82 | 29 => 52 | 20 => 74 | 21 => 75 | 22 => 76 | 23 => 77 | 24 => 78 | 25 => 79 | 26 => 80 | 27 => 81 | 46 => 83 | 47 => 84 | 48 => 85 | 49 => 86 | 50 => 87 | 57 => 88 | n => n, fun | 22 => 33 | 24 => 40 | 25 => 87 | 3 => 3 | 39 => 92 | 0 => 0 | 53 => 104 | 55 => 23 | 4 => 4 | 46 => 97 | 45 => 96 | 50 => 101 | 5 => 5 | 9 => 9 | 66 => 105 | 70 => 109 | 76 => 111 | 77 => 112 | n => n, fun | n => n⟩
theorem Try.sortSpan : Go.Proofs.SlLaysF0.n6 Try.prog Try.sortSpan_ren := {
  mixed := by kernel_rfl
  f6 := ⟨Try.f63.name, by decide, Try.func63.trans (congrArg some (by kernel_rfl))⟩
  f14 := ⟨Try.f72.name, by decide, Try.func72.trans (congrArg some (by kernel_rfl))⟩
  f15 := Try.func73.trans (congrArg some (by kernel_rfl))
  f20 := ⟨Try.f74.name, by decide, Try.func74.trans (congrArg some (by kernel_rfl))⟩
  f21 := ⟨Try.f75.name, by decide, Try.func75.trans (congrArg some (by kernel_rfl))⟩
  f22 := ⟨Try.f76.name, by decide, Try.func76.trans (congrArg some (by kernel_rfl))⟩
  f23 := ⟨Try.f77.name, by decide, Try.func77.trans (congrArg some (by kernel_rfl))⟩
  f24 := ⟨Try.f78.name, by decide, Try.func78.trans (congrArg some (by kernel_rfl))⟩
  f25 := ⟨Try.f79.name, by decide, Try.func79.trans (congrArg some (by kernel_rfl))⟩
  f26 := ⟨Try.f80.name, by decide, Try.func80.trans (congrArg some (by kernel_rfl))⟩
  f27 := ⟨Try.f81.name, by decide, Try.func81.trans (congrArg some (by kernel_rfl))⟩
  f28 := Try.func82.trans (congrArg some (by kernel_rfl))
  f29 := Try.func52.trans (congrArg some (by kernel_rfl))
  f46 := ⟨Try.f83.name, by decide, Try.func83.trans (congrArg some (by kernel_rfl))⟩
  f47 := Try.func84.trans (congrArg some (by kernel_rfl))
  f48 := Try.func85.trans (congrArg some (by kernel_rfl))
  f49 := ⟨Try.f86.name, by decide, Try.func86.trans (congrArg some (by kernel_rfl))⟩
  f50 := ⟨Try.f87.name, by decide, Try.func87.trans (congrArg some (by kernel_rfl))⟩
  f57 := ⟨Try.f88.name, by decide, Try.func88.trans (congrArg some (by kernel_rfl))⟩
  t0 := Try.underlying0
  a0 := Try.isAgg0
  z0 := Try.sizeOf0
  v0 := Try.zeroValue0
  t3 := Try.underlying3
  a3 := Try.isAgg3
  z3 := Try.sizeOf3
  v3 := Try.zeroValue3
  t4 := Try.underlying4
  a4 := Try.isAgg4
  z4 := Try.sizeOf4
  v4 := Try.zeroValue4
  t5 := Try.underlying5
  a5 := Try.isAgg5
  z5 := Try.sizeOf5
  v5 := Try.zeroValue5
  t9 := Try.underlying9
  a9 := Try.isAgg9
  z9 := Try.sizeOf9
  v9 := Try.zeroValue9
  t22 := Try.underlying33
  a22 := Try.isAgg33
  z22 := Try.sizeOf33
  v22 := Try.zeroValue33
  t25 := Try.underlying87
  a25 := Try.isAgg87
  z25 := Try.sizeOf87
  v25 := Try.zeroValue87
  t39 := Try.underlying92
  a39 := Try.isAgg92
  z39 := Try.sizeOf92
  v39 := Try.zeroValue92
  t45 := Try.underlying96
  a45 := Try.isAgg96
  z45 := Try.sizeOf96
  v45 := Try.zeroValue96
  t46 := Try.underlying97
  a46 := Try.isAgg97
  z46 := Try.sizeOf97
  v46 := Try.zeroValue97
  t50 := Try.underlying101
  a50 := Try.isAgg101
  z50 := Try.sizeOf101
  v50 := Try.zeroValue101
  t53 := Try.underlying104
  a53 := Try.isAgg104
  z53 := Try.sizeOf104
  v53 := Try.zeroValue104
  t55 := Try.underlying23
  a55 := Try.isAgg23
  z55 := Try.sizeOf23
  v55 := Try.zeroValue23
  t66 := Try.underlying105
  a66 := Try.isAgg105
  z66 := Try.sizeOf105
  v66 := Try.zeroValue105
  t70 := Try.underlying109
  a70 := Try.isAgg109
  z70 := Try.sizeOf109
  v70 := Try.zeroValue109
  t76 := Try.underlying111
  a76 := Try.isAgg111
  z76 := Try.sizeOf111
  v76 := Try.zeroValue111
  t77 := Try.underlying112
  a77 := Try.isAgg112
  z77 := Try.sizeOf112
  v77 := Try.zeroValue112 }
end Go.Proofs
namespace Go.Proofs.Ytnmglobfdlnenaa
open Go Go.RowKit
set_option linter.unusedVariables false
set_option linter.unusedSimpArgs false
def cmpSp (s t : Sp) : Int := if s.1 < t.1 then -1 else if t.1 < s.1 then 1 else 0

/-! curfew/span.Join$2 -/
set_option maxRecDepth 20000 in
theorem Join2_c (s t : Sp) (w : World) : Does Try.prog 64 #[.agg #[.int .i64 s.1, .int .i64 s.2], .agg #[.int .i64 t.1, .int .i64 t.2]] w (fun v w' => v = .int .i64 (cmpSp s t) ∧ ∃ q os', w' = Sort.grow (w.drewN q) os') := by
  refine does_enter2 Try.func64 rfl Try.ntmps64 rfl ?_
  have H := SH.start w noBlocks
  refine tr_seq (fun K1 hK1 => ?_)
  -- region 0: span.go:126
  refine tr_region ?_
  refine tr_op (or_box (cs := [.int .i64 s.1, .int .i64 s.2]) rfl rfl rfl) rfl rfl rfl ?_
  have H := H.add (upd_alloc _ 40 [.int .i64 s.1, .int .i64 s.2])
  refine tr_op (or_box (cs := [.int .i64 t.1, .int .i64 t.2]) rfl rfl rfl) rfl rfl rfl ?_
  have H := H.add (upd_alloc _ 40 [.int .i64 t.1, .int .i64 t.2])
  refine tr_val (ov_assign rfl rfl) rfl rfl rfl ?_
  refine tr_nil (hK1 _ _ (TrC.keep [4, 3, 2] ?_))
  show TrC _ _ _ _ [(4, _), (3, _), (2, _)] _ _
  refine tr_seq (fun K2 hK2 => ?_)
  refine tr_block ?_
  refine tr_seq (fun K3 hK3 => ?_)
  -- region 1: span.go:128
  refine tr_region ?_
  refine tr_val (ov_fieldAddr rfl Try.underlying40 rfl (Try.sizeOf2 _) (by decide) rfl) rfl rfl rfl ?_
  first | refine tr_val (ov_load_blk H.get0 rfl (Try.isAgg2 _) rfl rfl rfl) rfl rfl rfl ?_ | refine tr_val (ov_load_blk H.get1 rfl (Try.isAgg2 _) rfl rfl rfl) rfl rfl rfl ?_ | refine tr_val (ov_load_blk H.get2 rfl (Try.isAgg2 _) rfl rfl rfl) rfl rfl rfl ?_ | refine tr_val (ov_load_blk H.get3 rfl (Try.isAgg2 _) rfl rfl rfl) rfl rfl rfl ?_ | refine tr_val (ov_load_blk H.get4 rfl (Try.isAgg2 _) rfl rfl rfl) rfl rfl rfl ?_ | refine tr_val (ov_load_blk H.get5 rfl (Try.isAgg2 _) rfl rfl rfl) rfl rfl rfl ?_
  refine tr_val (ov_fieldAddr rfl Try.underlying40 rfl (Try.sizeOf2 _) (by decide) rfl) rfl rfl rfl ?_
  first | refine tr_val (ov_load_blk H.get0 rfl (Try.isAgg2 _) rfl rfl rfl) rfl rfl rfl ?_ | refine tr_val (ov_load_blk H.get1 rfl (Try.isAgg2 _) rfl rfl rfl) rfl rfl rfl ?_ | refine tr_val (ov_load_blk H.get2 rfl (Try.isAgg2 _) rfl rfl rfl) rfl rfl rfl ?_ | refine tr_val (ov_load_blk H.get3 rfl (Try.isAgg2 _) rfl rfl rfl) rfl rfl rfl ?_ | refine tr_val (ov_load_blk H.get4 rfl (Try.isAgg2 _) rfl rfl rfl) rfl rfl rfl ?_ | refine tr_val (ov_load_blk H.get5 rfl (Try.isAgg2 _) rfl rfl rfl) rfl rfl rfl ?_
  refine tr_val (ov_lss rfl rfl rfl) rfl rfl rfl ?_
  refine tr_val (ov_assign rfl rfl) rfl rfl rfl ?_
  refine tr_nil (hK3 _ _ (TrC.keep [5, 4, 3, 2] ?_))
  show TrC _ _ _ _ [(5, _), (4, _), (3, _), (2, _)] _ _
  first | refine tr_cond rfl (fun c5 => ?_) (fun c5 => ?_) | refine tr_condb rfl (fun c5 => ?_) (fun c5 => ?_)
  · skip
    refine tr_seq (fun K4 hK4 => ?_)
    -- region 2: span.go:129
    refine tr_region ?_
    refine tr_val (ov_assign rfl rfl) rfl rfl rfl ?_
    refine tr_nil (hK4 _ _ (TrC.keep [4, 5, 3, 2] ?_))
    show TrC _ _ _ _ [(4, _), (5, _), (3, _), (2, _)] _ _
    refine tr_ret (post_ret1 (.inr rfl) rfl rfl ?_)
    exact ⟨congrArg (Value.int .i64) (by unfold cmpSp; rw [if_pos (by omega)]), 0, _, by rw [Sort.alloc_eq_grow, Sort.alloc_eq_grow, Sort.grow_grow]; rfl⟩
  · skip
    refine tr_seq (fun K5 hK5 => ?_)
    -- region 3: span.go:130
    refine tr_region ?_
    refine tr_val (ov_fieldAddr rfl Try.underlying40 rfl (Try.sizeOf2 _) (by decide) rfl) rfl rfl rfl ?_
    first | refine tr_val (ov_load_blk H.get0 rfl (Try.isAgg2 _) rfl rfl rfl) rfl rfl rfl ?_ | refine tr_val (ov_load_blk H.get1 rfl (Try.isAgg2 _) rfl rfl rfl) rfl rfl rfl ?_ | refine tr_val (ov_load_blk H.get2 rfl (Try.isAgg2 _) rfl rfl rfl) rfl rfl rfl ?_ | refine tr_val (ov_load_blk H.get3 rfl (Try.isAgg2 _) rfl rfl rfl) rfl rfl rfl ?_ | refine tr_val (ov_load_blk H.get4 rfl (Try.isAgg2 _) rfl rfl rfl) rfl rfl rfl ?_ | refine tr_val (ov_load_blk H.get5 rfl (Try.isAgg2 _) rfl rfl rfl) rfl rfl rfl ?_
    refine tr_val (ov_fieldAddr rfl Try.underlying40 rfl (Try.sizeOf2 _) (by decide) rfl) rfl rfl rfl ?_
    first | refine tr_val (ov_load_blk H.get0 rfl (Try.isAgg2 _) rfl rfl rfl) rfl rfl rfl ?_ | refine tr_val (ov_load_blk H.get1 rfl (Try.isAgg2 _) rfl rfl rfl) rfl rfl rfl ?_ | refine tr_val (ov_load_blk H.get2 rfl (Try.isAgg2 _) rfl rfl rfl) rfl rfl rfl ?_ | refine tr_val (ov_load_blk H.get3 rfl (Try.isAgg2 _) rfl rfl rfl) rfl rfl rfl ?_ | refine tr_val (ov_load_blk H.get4 rfl (Try.isAgg2 _) rfl rfl rfl) rfl rfl rfl ?_ | refine tr_val (ov_load_blk H.get5 rfl (Try.isAgg2 _) rfl rfl rfl) rfl rfl rfl ?_
    refine tr_val (ov_gtr rfl rfl rfl) rfl rfl rfl ?_
    refine tr_val (ov_assign rfl rfl) rfl rfl rfl ?_
    refine tr_nil (hK5 _ _ (TrC.keep [11, 5, 4, 3, 2] ?_))
    show TrC _ _ _ _ [(11, _), (5, _), (4, _), (3, _), (2, _)] _ _
    first | refine tr_cond rfl (fun c11 => ?_) (fun c11 => ?_) | refine tr_condb rfl (fun c11 => ?_) (fun c11 => ?_)
    · skip
      refine tr_seq (fun K6 hK6 => ?_)
      -- region 4: span.go:131
      refine tr_region ?_
      refine tr_val (ov_assign rfl rfl) rfl rfl rfl ?_
      refine tr_nil (hK6 _ _ (TrC.keep [4, 11, 5, 3, 2] ?_))
      show TrC _ _ _ _ [(4, _), (11, _), (5, _), (3, _), (2, _)] _ _
      refine tr_ret (post_ret1 (.inr rfl) rfl rfl ?_)
      exact ⟨congrArg (Value.int .i64) (by unfold cmpSp; rw [if_neg (by omega), if_pos (by omega)]), 0, _, by rw [Sort.alloc_eq_grow, Sort.alloc_eq_grow, Sort.grow_grow]; rfl⟩
    · skip
      refine tr_skip (hK2 _ _ (TrC.keep [11, 5, 4, 3, 2] ?_))
      show TrC _ _ _ _ [(11, _), (5, _), (4, _), (3, _), (2, _)] _ _
      refine tr_seq (fun K7 hK7 => ?_)
      -- region 5: span.go:133
      refine tr_region ?_
      refine tr_val (ov_assign rfl rfl) rfl rfl rfl ?_
      refine tr_nil (hK7 _ _ (TrC.keep [4, 11, 5, 3, 2] ?_))
      show TrC _ _ _ _ [(4, _), (11, _), (5, _), (3, _), (2, _)] _ _
      refine tr_ret (post_ret1 (.inr rfl) rfl rfl ?_)
      exact ⟨congrArg (Value.int .i64) (by unfold cmpSp; rw [if_neg (by omega), if_neg (by omega)]), 0, _, by rw [Sort.alloc_eq_grow, Sort.alloc_eq_grow, Sort.grow_grow]; rfl⟩

theorem ltSp (x y : Sp) : Proofs.ltOf cmpSp x y = decide (x.1 < y.1) := by
  unfold Proofs.ltOf cmpSp
  by_cases h1 : x.1 < y.1
  · simp [h1]
  · by_cases h2 : y.1 < x.1 <;> simp [h1, h2]
theorem swoSp : Sort.SWO (Proofs.ltOf cmpSp) := {
  irrefl := fun x => by rw [ltSp]; simp
  trans := fun x y z h1 h2 => by rw [ltSp] at *; simp at *; omega
  ntrans := fun x y z h1 h2 => by rw [ltSp] at *; simp at *; omega }
theorem cmpLays64 (blk off size : Nat) (w : World) : Proofs.CmpLays Try.prog 64 #[] encSpan 2 cmpSp blk off size w :=
  fun _ _ _ _ x y => (Join2_c x y _).out.mono fun e w' h => by
    cases e with
    | returned v => exact ⟨congrArg Ending.returned h.1, h.2⟩
    | panicked c => exact h.elim
    | outgrown => exact h.elim
theorem SortFunc_c (A : Option Addr) (c : Nat) (L : List Sp) (w : World) (h : (vec A c 40 2 encSpan L).holds w) (hL : L.length ≤ 4294967296) :
    Does Try.prog 63 #[.slice A L.length c, .func (.func 64) #[] #[]] w (fun v w' => v = .tuple #[] ∧ ∃ M : List Sp, M.length = L.length ∧ M.Perm L ∧ M.Pairwise (fun x y => x.1 ≤ y.1) ∧ SH w (vec A c 40 2 encSpan L).foot [vec A c 40 2 encSpan M] w') := by
  cases L with
  | nil =>
    refine ⟨(Proofs.AnyF.slices_SortFunc_none Try.sortSpan A c (.func (.func 64) #[] #[]) w).mono fun e w' q => ?_⟩
    obtain ⟨rfl, rfl⟩ := q
    exact ⟨rfl, [], rfl, List.Perm.refl _, List.Pairwise.nil, SH.own1 h⟩
  | cons s L =>
    obtain ⟨g, rfl⟩ := row_some h (by simp [encSpan])
    have hlt := (vec (some ⟨g, 0, none⟩) c 40 2 encSpan (s :: L)).inside w g h rfl
    have hc := Proofs.AnyQ.slices_SortFunc Try.sortSpan 2 Try.isAgg40 Try.sizeOf40 encSpan lenSpan (fun x v hv => oneSpan x v hv) cmpSp swoSp 64 #[] g 0 c (s :: L).toArray w Try.call64 (cmpLays64 g 0 _ w) (holdsK_vec h lenSpan (by decide)) hlt (by simp at hL ⊢; omega)
    change Calls Try.prog 63 _ _ _ at hc
    refine ⟨hc.mono fun e w' q => ?_⟩
    obtain ⟨rfl, d, n, os, hp, hs, rfl⟩ := q
    have hP : d.toList.Perm (s :: L) := by simpa using permIn_perm hp
    have hl := hP.length_eq
    have hs' : Sort.SortedIn (Proofs.ltOf cmpSp) 0 d.size d := by
      have e1 : (s :: L).toArray.size = d.size := hp.1.symm
      rwa [e1] at hs
    refine ⟨rfl, d.toList, hl, hP, (sortedIn_pairwise hs').imp ?_, ?_⟩
    · intro x y h; rw [ltSp] at h; simp at h; exact h
    · have U := upd_sortedK (n := n) (os := os) (M := d.toList) h lenSpan (by decide) hl
      exact (SH.own1 h).upd0 U

end Go.Proofs.Ytnmglobfdlnenaa
