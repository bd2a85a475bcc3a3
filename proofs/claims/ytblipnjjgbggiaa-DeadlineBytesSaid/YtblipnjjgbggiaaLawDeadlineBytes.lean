/- DeadlineBytes: the law's row. Conditions: none. -/
import Derived.Test.YtblipnjjgbggiaaQlE
import Derived.Test.YtblipnjjgbggiaaRcap
import Derived.Test.YtblipnjjgbggiaaRows
import Derived.Test.YtblipnjjgbggiaaRow
import Derived.WalkKit
import Derived.ProofKit
import Derived.OpenShut
import Derived.ShutString
import Derived.ChangeOld
import Derived.Below
namespace Go.Proofs.Ytblipnjjgbggiaa.deadlineBytes
open Go.ChangeShapes Go.WideShapes Go.ChangeAt Go.RowKit
open Go.ChangeMaps (open_string shut_string)
set_option linter.unusedVariables false
set_option linter.unusedSimpArgs false
theorem own : ownKnob Try.prog.godebug = none := by kernel_rfl
theorem laidOut : laidOutB Try.prog = true := by kernel_rfl
set_option maxRecDepth 100000 in
theorem dec30 {H : Type} {enc : TypeId × Value → H} {w : World} {base : Nat} {spare : Nat → Bool} {held : Bool} {n : Nat} {cs : List Value} {z : DataW H × List MemPlace} (h : DataW.trod enc Try.prog w base spare held n 30 cs = some z) :
    ∃ x : Thing, cs = encThing x ∧ ((Lit.int .u64 x.id).wf = true ∧ (Lit.int .u64 x.gen).wf = true ∧ (Lit.int .i64 x.due).wf = true) := by
  obtain ⟨xs, m, _, _, hl, hxl, hf⟩ := DataW.trod_struct Try.underlying30 h
  have hc : Try.prog.cellsOf 30 = 3 := by kernel_rfl
  rw [hc] at hl
  match cs, hl with
  | [c0, c1, c2], _ =>
    obtain ⟨y0, hy0⟩ : ∃ y, xs[0]? = some y := ⟨_, List.getElem?_eq_getElem (by rw [hxl]; decide)⟩
    have g0 := hf 0 _ rfl
    rw [hy0] at g0
    change DataW.trod _ _ _ _ _ _ _ 28 (([c0, c1, c2].drop 0).take (Try.prog.cellsOf 28)) = _ at g0
    rw [show Try.prog.cellsOf 28 = 1 by kernel_rfl] at g0
    obtain ⟨y1, hy1⟩ : ∃ y, xs[1]? = some y := ⟨_, List.getElem?_eq_getElem (by rw [hxl]; decide)⟩
    have g1 := hf 1 _ rfl
    rw [hy1] at g1
    change DataW.trod _ _ _ _ _ _ _ 28 (([c0, c1, c2].drop 1).take (Try.prog.cellsOf 28)) = _ at g1
    rw [show Try.prog.cellsOf 28 = 1 by kernel_rfl] at g1
    obtain ⟨y2, hy2⟩ : ∃ y, xs[2]? = some y := ⟨_, List.getElem?_eq_getElem (by rw [hxl]; decide)⟩
    have g2 := hf 2 _ rfl
    rw [hy2] at g2
    change DataW.trod _ _ _ _ _ _ _ 2 (([c0, c1, c2].drop 2).take (Try.prog.cellsOf 2)) = _ at g2
    rw [show Try.prog.cellsOf 2 = 1 by kernel_rfl] at g2
    obtain ⟨x0, h0, _, w0⟩ := DataW.trod_int Try.underlying28 g0
    simp at h0; subst h0
    obtain ⟨x1, h1, _, w1⟩ := DataW.trod_int Try.underlying28 g1
    simp at h1; subst h1
    obtain ⟨x2, h2, _, w2⟩ := DataW.trod_int Try.underlying2 g2
    simp at h2; subst h2
    exact ⟨⟨x0, x1, x2⟩, rfl, w0, w1, w2⟩
set_option maxRecDepth 100000 in
theorem dec78 {H : Type} {enc : TypeId × Value → H} {w : World} {base : Nat} {spare : Nat → Bool} {held : Bool} {n : Nat} {cs : List Value} {z : DataW H × List MemPlace} (h : DataW.trod enc Try.prog w base spare held n 78 cs = some z) :
    ∃ (now last : Int) (a : Option Addr) (cap : Nat) (L : List Thing), cs = [.int .i64 now, .int .u64 last, .slice a L.length cap] ∧ Rd w a 3 (L.map encThing) ∧ (Lit.int .i64 now).wf = true ∧ (Lit.int .u64 last).wf = true ∧ ∀ x, x ∈ L → ((Lit.int .u64 x.id).wf = true ∧ (Lit.int .u64 x.gen).wf = true ∧ (Lit.int .i64 x.due).wf = true) := by
  obtain ⟨xs, m, _, _, hl, hxl, hf⟩ := DataW.trod_struct Try.underlying78 h
  have hc : Try.prog.cellsOf 78 = 3 := by kernel_rfl
  rw [hc] at hl
  match cs, hl with
  | [c0, c1, c2], _ =>
    obtain ⟨y0, hy0⟩ : ∃ y, xs[0]? = some y := ⟨_, List.getElem?_eq_getElem (by rw [hxl]; decide)⟩
    have g0 := hf 0 _ rfl
    rw [hy0] at g0
    change DataW.trod _ _ _ _ _ _ _ 2 (([c0, c1, c2].drop 0).take (Try.prog.cellsOf 2)) = _ at g0
    rw [show Try.prog.cellsOf 2 = 1 by kernel_rfl] at g0
    obtain ⟨y1, hy1⟩ : ∃ y, xs[1]? = some y := ⟨_, List.getElem?_eq_getElem (by rw [hxl]; decide)⟩
    have g1 := hf 1 _ rfl
    rw [hy1] at g1
    change DataW.trod _ _ _ _ _ _ _ 28 (([c0, c1, c2].drop 1).take (Try.prog.cellsOf 28)) = _ at g1
    rw [show Try.prog.cellsOf 28 = 1 by kernel_rfl] at g1
    obtain ⟨y2, hy2⟩ : ∃ y, xs[2]? = some y := ⟨_, List.getElem?_eq_getElem (by rw [hxl]; decide)⟩
    have g2 := hf 2 _ rfl
    rw [hy2] at g2
    change DataW.trod _ _ _ _ _ _ _ 32 (([c0, c1, c2].drop 2).take (Try.prog.cellsOf 32)) = _ at g2
    rw [show Try.prog.cellsOf 32 = 1 by kernel_rfl] at g2
    obtain ⟨x0, h0, _, w0⟩ := DataW.trod_int Try.underlying2 g0
    simp at h0; subst h0
    obtain ⟨x1, h1, _, w1⟩ := DataW.trod_int Try.underlying28 g1
    simp at h1; subst h1
    change DataW.trod _ _ _ _ _ _ _ 32 [c2] = _ at g2
    obtain ⟨a, len, cap, rfl⟩ : ∃ a len cap, c2 = .slice a len cap := by
      rcases Deep.open_slice Try.underlying32 g2 with ⟨hc, _⟩ | ⟨ad, ln, cp, m, n, D, Pl, hc, _⟩
      · simp at hc; exact ⟨_, _, _, hc⟩
      · simp at hc; exact ⟨_, _, _, hc⟩
    obtain ⟨L, hL, hR, hM, hW⟩ := row_slice encThing (fun x => ((Lit.int .u64 x.id).wf = true ∧ (Lit.int .u64 x.gen).wf = true ∧ (Lit.int .i64 x.due).wf = true)) Try.underlying32 (show Try.prog.cellsOf 30 = 3 by kernel_rfl) (fun h => dec30 h) g2
    subst hL
    exact ⟨x0, x1, a, cap, L, rfl, hR, w0, w1, hW⟩
set_option maxRecDepth 100000 in
theorem lifted (os : Os) (started : os.Started) (H : Type) (enc : TypeId × Value → H) :
    ReturnsInHanded {} Try.checked os 12 .any (Rows.deadlineBytesSpec.pre6 enc Try.prog Try.f12 Rows.deadlineBytesRow.domain false) (Rows.deadlineBytesSpec.post enc Try.prog Try.f12 false true false false) := by
  refine returnsInHanded_of_change (C := Try.checked) own started (by kernel_rfl) Try.func12
    (ChangeSpec.witness6 (enc := enc) (C := Try.checked) false ⟨#[], #[.agg #[.int .i64 0, .int .u64 0, .slice none 0 0], .agg #[.int .i64 0, .int .u64 0, .slice none 0 0], .slice none 0 0], []⟩ 8 (by kernel_rfl) (by kernel_rfl) (by kernel_rfl) (by kernel_rfl)) ?_
  intro W base args ds gs before hval0 hW hcnd _
  have hval : ∀ (j : Nat) t v, Try.f12.params[j]? = some t → args[j]? = some v → Value.okWide Try.prog W .any base t v := hval0
  have hW' := hW
  obtain ⟨p, q, hA0, hV, rfl, hfz, hnd⟩ := hW
  have hA : DataW.TrodAll enc Try.prog W 0 (fun _ => true) true Try.f12.params.toList args.toList ds p := hA0
  rw [Try.params12] at hA hval
  obtain ⟨v0, vs0, d0, ds0, p0, q0, hargs, rfl, rfl, h0, r0⟩ := trodAll_cons hA
  obtain ⟨v1, vs1, d1, ds1, p1, q1, rfl, rfl, rfl, h1, r1⟩ := trodAll_cons r0
  obtain ⟨v2, vs2, d2, ds2, p2, q2, rfl, rfl, rfl, h2, r2⟩ := trodAll_cons r1
  obtain ⟨rfl, rfl, rfl⟩ := trodAll_nil r2
  obtain rfl : args = #[v0, v1, v2] := by cases args; simp_all
  obtain ⟨rfl, rfl⟩ := trodVars_none hV
  have k0 := h0
  have lt0 : ∀ x ∈ p0, x.block < W.heap.size := by obtain ⟨m, hm⟩ := k0; exact DataW.trod_lt m _ _ _ hm
  obtain ⟨cs0, rfl, hsz0⟩ := okWide_struct Try.underlying78 (hval 0 78 v0 rfl rfl)
  obtain ⟨fuel0, hf0⟩ := h0
  obtain ⟨now0, last0, a0, cap0, L0, hc0, hR0, wn0, wl0, hW0⟩ := dec78 hf0
  obtain rfl : cs0 = ([.int .i64 now0, .int .u64 last0, .slice a0 L0.length cap0] : List Value).toArray := by rw [← hc0]; simp [Value.cells]
  have k1 := h1
  have lt1 : ∀ x ∈ p1, x.block < W.heap.size := by obtain ⟨m, hm⟩ := k1; exact DataW.trod_lt m _ _ _ hm
  obtain ⟨cs1, rfl, hsz1⟩ := okWide_struct Try.underlying78 (hval 1 78 v1 rfl rfl)
  obtain ⟨fuel1, hf1⟩ := h1
  obtain ⟨now1, last1, a1, cap1, L1, hc1, hR1, wn1, wl1, hW1⟩ := dec78 hf1
  obtain rfl : cs1 = ([.int .i64 now1, .int .u64 last1, .slice a1 L1.length cap1] : List Value).toArray := by rw [← hc1]; simp [Value.cells]
  have k2 := h2
  have lt2 : ∀ x ∈ p2, x.block < W.heap.size := by obtain ⟨m, hm⟩ := k2; exact DataW.trod_lt m _ _ _ hm
  obtain ⟨a2, len2, cap2, rfl⟩ := okWide_slice Try.underlying98 (hval 2 98 v2 rfl rfl)
  obtain ⟨fuel2, hf2⟩ := h2
  obtain ⟨L2, hl2, hR2, hM2, hW2⟩ := row_slice encU8 (fun x => (Lit.int .u8 x).wf = true) Try.underlying98 (show Try.prog.cellsOf 5 = 1 by kernel_rfl) (fun h => (dec_int encU8 (fun _ => rfl) Try.underlying5) h) hf2
  have hC2 : len2 ≤ cap2 := row_cap Try.underlying98 hf2
  subst hl2
  clear hA0 hval0
  refine (answers (DeadlineBytes_c a0 cap0 L0 now0 last0 a1 cap1 L1 now1 last1 a2 cap2 L2 W hR0 hR1 hR2 (fun t ht => rng_u64 (hW0 t ht).1) (rng_i64 wn0) (rng_u64 wl0) (fun x hx => rng_u8 (hW2 x hx)) hC2)).mono fun e W' ⟨he, bel⟩ => ?_
  subst he
  exact ⟨_, rfl, _, _, _, [], _, [], hW', trodAll_mk1 (shut_bool Try.underlying4 _), (trodAll_cons_mk (Below.trod laidOut (by kernel_rfl) (of_decide_eq_true (by kernel_rfl)) k0 bel lt0) (trodAll_cons_mk (Below.trod laidOut (by kernel_rfl) (of_decide_eq_true (by kernel_rfl)) k1 bel lt1) (trodAll_cons_mk (Below.trod laidOut (by kernel_rfl) (of_decide_eq_true (by kernel_rfl)) k2 bel lt2) trodAll_mk0))), rfl, bel.frame _, fun h => by cases h⟩
theorem over : Rows.deadlineBytesRow.holds Try.pinned (OpenSpec.ofChange Rows.deadlineBytesSpec) :=
  OpenClaim.holds_of_wide 12 Try.f12 rfl rfl rfl rfl rfl rfl rfl ⟨rfl, rfl, rfl, rfl, rfl⟩ rfl rfl rfl rfl rfl (by kernel_rfl) Try.func12 (by kernel_rfl)
    (of_decide_eq_true (by kernel_rfl)) (by unfold Func.isWrapper; first | (rw [if_pos (by decide +kernel)]; kernel_rfl) | (rw [if_neg (by decide +kernel)]; exact ⟨rfl, rfl⟩))
    (fun os started H enc _ => lifted os started H enc)
/-- The statement. -/
theorem proved : Rows.DeadlineBytesSaid := over
end Go.Proofs.Ytblipnjjgbggiaa.deadlineBytes
