/- DeadlineOnce: the law's row. Conditions: none. -/
import Derived.Test.YtblipnjjgbggiaaDlO
import Derived.Test.YtblipnjjgbggiaaRows
import Derived.Test.YtblipnjjgbggiaaRow
import Derived.WalkKit
import Derived.ProofKit
import Derived.OpenShut
import Derived.ShutString
import Derived.ChangeOld
import Derived.Below
namespace Go.Proofs.Ytblipnjjgbggiaa.deadlineOnce
open Go.ChangeShapes Go.WideShapes Go.ChangeAt Go.RowKit
open Go.ChangeMaps (open_string shut_string)
set_option linter.unusedVariables false
set_option linter.unusedSimpArgs false
theorem own : ownKnob Try.prog.godebug = none := by kernel_rfl
theorem laidOut : laidOutB Try.prog = true := by kernel_rfl
set_option maxRecDepth 100000 in
theorem dec74 {H : Type} {enc : TypeId × Value → H} {w : World} {base : Nat} {spare : Nat → Bool} {held : Bool} {n : Nat} {cs : List Value} {z : DataW H × List MemPlace} (h : DataW.trod enc Try.prog w base spare held n 74 cs = some z) :
    ∃ x : DOp, cs = encDOp x ∧ ((Lit.int .i64 x.kind).wf = true ∧ (Lit.int .u64 x.id).wf = true ∧ (Lit.int .i64 x.at_).wf = true) := by
  obtain ⟨xs, m, _, _, hl, hxl, hf⟩ := DataW.trod_struct Try.underlying74 h
  have hc : Try.prog.cellsOf 74 = 3 := by kernel_rfl
  rw [hc] at hl
  match cs, hl with
  | [c0, c1, c2], _ =>
    obtain ⟨y0, hy0⟩ : ∃ y, xs[0]? = some y := ⟨_, List.getElem?_eq_getElem (by rw [hxl]; decide)⟩
    have g0 := hf 0 _ rfl
    rw [hy0] at g0
    change DataW.trod _ _ _ _ _ _ _ 3 (([c0, c1, c2].drop 0).take (Try.prog.cellsOf 3)) = _ at g0
    rw [show Try.prog.cellsOf 3 = 1 by kernel_rfl] at g0
    obtain ⟨y1, hy1⟩ : ∃ y, xs[1]? = some y := ⟨_, List.getElem?_eq_getElem (by rw [hxl]; decide)⟩
    have g1 := hf 1 _ rfl
    rw [hy1] at g1
    change DataW.trod _ _ _ _ _ _ _ 28 (([c0, c1, c2].drop 1).take (Try.prog.cellsOf 28)) = _ at g1
    rw [show Try.prog.cellsOf 28 = 1 by kernel_rfl] at g1
    obtain ⟨y2, hy2⟩ : ∃ y, xs[2]? = some y := ⟨_, List.getElem?_eq_getElem (by rw [hxl]; decide)⟩
    have g2 := hf 2 _ rfl
    rw [hy2] at g2
    change DataW.trod _ _ _ _ _ _ _ 2 (([c0, c1, c2].drop 2).take (Try.prog.cellsOf 2)) = _ at g2
    rw [show Try.prog.cellsOf 2 = 1 by kernel_rfl] at g2
    obtain ⟨x0, h0, _, w0⟩ := DataW.trod_int Try.underlying3 g0
    simp at h0; subst h0
    obtain ⟨x1, h1, _, w1⟩ := DataW.trod_int Try.underlying28 g1
    simp at h1; subst h1
    obtain ⟨x2, h2, _, w2⟩ := DataW.trod_int Try.underlying2 g2
    simp at h2; subst h2
    exact ⟨⟨x0, x1, x2⟩, rfl, w0, w1, w2⟩
set_option maxRecDepth 100000 in
theorem lifted (os : Os) (started : os.Started) (H : Type) (enc : TypeId × Value → H) :
    ReturnsInHanded {} Try.checked os 8 .any (Rows.deadlineOnceSpec.pre6 enc Try.prog Try.f8 Rows.deadlineOnceRow.domain false) (Rows.deadlineOnceSpec.post enc Try.prog Try.f8 false true false false) := by
  refine returnsInHanded_of_change (C := Try.checked) own started (by kernel_rfl) Try.func8
    (ChangeSpec.witness6 (enc := enc) (C := Try.checked) false ⟨#[], #[.int .i64 0, .slice none 0 0], []⟩ 8 (by kernel_rfl) (by kernel_rfl) (by kernel_rfl) (by kernel_rfl)) ?_
  intro W base args ds gs before hval0 hW hcnd _
  have hval : ∀ (j : Nat) t v, Try.f8.params[j]? = some t → args[j]? = some v → Value.okWide Try.prog W .any base t v := hval0
  have hW' := hW
  obtain ⟨p, q, hA0, hV, rfl, hfz, hnd⟩ := hW
  have hA : DataW.TrodAll enc Try.prog W 0 (fun _ => true) true Try.f8.params.toList args.toList ds p := hA0
  rw [Try.params8] at hA hval
  obtain ⟨v0, vs0, d0, ds0, p0, q0, hargs, rfl, rfl, h0, r0⟩ := trodAll_cons hA
  obtain ⟨v1, vs1, d1, ds1, p1, q1, rfl, rfl, rfl, h1, r1⟩ := trodAll_cons r0
  obtain ⟨rfl, rfl, rfl⟩ := trodAll_nil r1
  obtain rfl : args = #[v0, v1] := by cases args; simp_all
  obtain ⟨rfl, rfl⟩ := trodVars_none hV
  obtain ⟨a0, rfl, rfl, rfl, w0⟩ := open_int Try.underlying2 (hval 0 2 v0 rfl rfl) h0
  have k1 := h1
  have lt1 : ∀ x ∈ p1, x.block < W.heap.size := by obtain ⟨m, hm⟩ := k1; exact DataW.trod_lt m _ _ _ hm
  obtain ⟨a1, len1, cap1, rfl⟩ := okWide_slice Try.underlying68 (hval 1 68 v1 rfl rfl)
  obtain ⟨fuel1, hf1⟩ := h1
  obtain ⟨L1, hl1, hR1, hM1, hW1⟩ := row_slice encDOp (fun x => (Lit.int .i64 x.kind).wf = true ∧ (Lit.int .u64 x.id).wf = true ∧ (Lit.int .i64 x.at_).wf = true) Try.underlying68 (show Try.prog.cellsOf 74 = 3 by kernel_rfl) (fun h => dec74 h) hf1
  subst hl1
  clear hA0 hval0
  refine (answers (DeadlineOnce_c a0 a1 cap1 L1 W hR1 (fun q h => rng_u64 (hW1 q h).2.1))).mono fun e W' ⟨he, bel⟩ => ?_
  subst he
  exact ⟨_, rfl, _, _, _, [], _, [], hW', trodAll_mk1 (shut_bool Try.underlying4 _), (trodAll_cons_mk (shut_int Try.underlying2 w0) (trodAll_cons_mk (Below.trod laidOut (by kernel_rfl) (of_decide_eq_true (by kernel_rfl)) k1 bel lt1) trodAll_mk0)), rfl, bel.frame _, fun h => by cases h⟩
theorem over : Rows.deadlineOnceRow.holds Try.pinned (OpenSpec.ofChange Rows.deadlineOnceSpec) :=
  OpenClaim.holds_of_wide 8 Try.f8 rfl rfl rfl rfl rfl rfl rfl ⟨rfl, rfl, rfl, rfl, rfl⟩ rfl rfl rfl rfl rfl (by kernel_rfl) Try.func8 (by kernel_rfl)
    (of_decide_eq_true (by kernel_rfl)) (by unfold Func.isWrapper; first | (rw [if_pos (by decide +kernel)]; kernel_rfl) | (rw [if_neg (by decide +kernel)]; exact ⟨rfl, rfl⟩))
    (fun os started H enc _ => lifted os started H enc)
/-- The statement. -/
theorem proved : Rows.DeadlineOnceSaid := over
end Go.Proofs.Ytblipnjjgbggiaa.deadlineOnce
