/- SlotsPlay: the law's row and its card. Conditions: none. -/
import Derived.Test.YtblipnjjgbggiaaDoorSlotsX
import Derived.Test.YtblipnjjgbggiaaDoorRows
import Derived.Test.YtblipnjjgbggiaaDoorRow
import Derived.WalkKit
import Derived.ProofKit
import Derived.OpenShut
import Derived.ShutString
import Derived.ChangeOld
import Derived.Below
import Derived.Test.YtblipnjjgbggiaaDoorCards
import Derived.Test.YtblipnjjgbggiaaDoorTie
import Derived.Lib.LaidTab
import Derived.LaidMore
import Derived.SevenTiedAt
namespace Go.Proofs.YtblipnjjgbggiaaDoor.slotsPlay
open Go.ChangeShapes Go.WideShapes Go.ChangeAt Go.RowKit
open Go.ChangeMaps (open_string shut_string)
set_option linter.unusedVariables false
set_option linter.unusedSimpArgs false
theorem own : ownKnob Tryd.prog.godebug = none := by kernel_rfl
theorem laidOut : laidOutB Tryd.prog = true := by kernel_rfl
set_option maxRecDepth 100000 in
theorem dec27 {H : Type} {enc : TypeId × Value → H} {w : World} {base : Nat} {spare : Nat → Bool} {held : Bool} {n : Nat} {cs : List Value} {z : DataW H × List MemPlace} (h : DataW.trod enc Tryd.prog w base spare held n 27 cs = some z) :
    ∃ x : Thing, cs = encThing x ∧ ((Lit.int .u64 x.id).wf = true ∧ (Lit.int .u64 x.gen).wf = true ∧ (Lit.int .i64 x.due).wf = true) := by
  obtain ⟨xs, m, _, _, hl, hxl, hf⟩ := DataW.trod_struct Tryd.underlying27 h
  have hc : Tryd.prog.cellsOf 27 = 3 := by kernel_rfl
  rw [hc] at hl
  match cs, hl with
  | [c0, c1, c2], _ =>
    obtain ⟨y0, hy0⟩ : ∃ y, xs[0]? = some y := ⟨_, List.getElem?_eq_getElem (by rw [hxl]; decide)⟩
    have g0 := hf 0 _ rfl
    rw [hy0] at g0
    change DataW.trod _ _ _ _ _ _ _ 25 (([c0, c1, c2].drop 0).take (Tryd.prog.cellsOf 25)) = _ at g0
    rw [show Tryd.prog.cellsOf 25 = 1 by kernel_rfl] at g0
    obtain ⟨y1, hy1⟩ : ∃ y, xs[1]? = some y := ⟨_, List.getElem?_eq_getElem (by rw [hxl]; decide)⟩
    have g1 := hf 1 _ rfl
    rw [hy1] at g1
    change DataW.trod _ _ _ _ _ _ _ 25 (([c0, c1, c2].drop 1).take (Tryd.prog.cellsOf 25)) = _ at g1
    rw [show Tryd.prog.cellsOf 25 = 1 by kernel_rfl] at g1
    obtain ⟨y2, hy2⟩ : ∃ y, xs[2]? = some y := ⟨_, List.getElem?_eq_getElem (by rw [hxl]; decide)⟩
    have g2 := hf 2 _ rfl
    rw [hy2] at g2
    change DataW.trod _ _ _ _ _ _ _ 2 (([c0, c1, c2].drop 2).take (Tryd.prog.cellsOf 2)) = _ at g2
    rw [show Tryd.prog.cellsOf 2 = 1 by kernel_rfl] at g2
    obtain ⟨x0, h0, _, w0⟩ := DataW.trod_int Tryd.underlying25 g0
    simp at h0; subst h0
    obtain ⟨x1, h1, _, w1⟩ := DataW.trod_int Tryd.underlying25 g1
    simp at h1; subst h1
    obtain ⟨x2, h2, _, w2⟩ := DataW.trod_int Tryd.underlying2 g2
    simp at h2; subst h2
    exact ⟨⟨x0, x1, x2⟩, rfl, w0, w1, w2⟩
set_option maxRecDepth 100000 in
theorem dec41 {H : Type} {enc : TypeId × Value → H} {w : World} {base : Nat} {spare : Nat → Bool} {held : Bool} {n : Nat} {cs : List Value} {z : DataW H × List MemPlace} (h : DataW.trod enc Tryd.prog w base spare held n 41 cs = some z) :
    ∃ x : SOp, cs = encSOp x ∧ ((Lit.int .i64 x.kind).wf = true ∧ (Lit.int .i64 x.slot).wf = true ∧ ((Lit.int .u64 x.th.id).wf = true ∧ (Lit.int .u64 x.th.gen).wf = true ∧ (Lit.int .i64 x.th.due).wf = true)) := by
  obtain ⟨xs, m, _, _, hl, hxl, hf⟩ := DataW.trod_struct Tryd.underlying41 h
  have hc : Tryd.prog.cellsOf 41 = 5 := by kernel_rfl
  rw [hc] at hl
  match cs, hl with
  | [c0, c1, c2, c3, c4], _ =>
    obtain ⟨y0, hy0⟩ : ∃ y, xs[0]? = some y := ⟨_, List.getElem?_eq_getElem (by rw [hxl]; decide)⟩
    have g0 := hf 0 _ rfl
    rw [hy0] at g0
    change DataW.trod _ _ _ _ _ _ _ 3 (([c0, c1, c2, c3, c4].drop 0).take (Tryd.prog.cellsOf 3)) = _ at g0
    rw [show Tryd.prog.cellsOf 3 = 1 by kernel_rfl] at g0
    obtain ⟨y1, hy1⟩ : ∃ y, xs[1]? = some y := ⟨_, List.getElem?_eq_getElem (by rw [hxl]; decide)⟩
    have g1 := hf 1 _ rfl
    rw [hy1] at g1
    change DataW.trod _ _ _ _ _ _ _ 3 (([c0, c1, c2, c3, c4].drop 1).take (Tryd.prog.cellsOf 3)) = _ at g1
    rw [show Tryd.prog.cellsOf 3 = 1 by kernel_rfl] at g1
    obtain ⟨y2, hy2⟩ : ∃ y, xs[2]? = some y := ⟨_, List.getElem?_eq_getElem (by rw [hxl]; decide)⟩
    have g2 := hf 2 _ rfl
    rw [hy2] at g2
    change DataW.trod _ _ _ _ _ _ _ 27 (([c0, c1, c2, c3, c4].drop 2).take (Tryd.prog.cellsOf 27)) = _ at g2
    rw [show Tryd.prog.cellsOf 27 = 3 by kernel_rfl] at g2
    obtain ⟨x0, h0, _, w0⟩ := DataW.trod_int Tryd.underlying3 g0
    simp at h0; subst h0
    obtain ⟨x1, h1, _, w1⟩ := DataW.trod_int Tryd.underlying3 g1
    simp at h1; subst h1
    obtain ⟨x2, h2, w2⟩ := dec27 g2
    simp [encThing] at h2; obtain ⟨rfl, rfl, rfl⟩ := h2
    exact ⟨⟨x0, x1, x2⟩, rfl, w0, w1, w2⟩
theorem gTab : Tryd.prog.globalNamed "math/bits.deBruijn64tab" = some 0 := by kernel_rfl
theorem tTab : (Tryd.prog.globals[0]?).map (·.type) = some 84 := by kernel_rfl
theorem laid_is : Rows.slotsPlayRow.laid = [("math/bits.deBruijn64tab", Lib.tabData .u8 (Lib.deBruijn64tab.map fun n : Nat => (n : Int)))] := by kernel_rfl
theorem tab_at : ∀ j, j < 64 → (Lib.deBruijn64tab.map fun n : Nat => (n : Int)).getD j 0 = ((Lib.deBruijn64tab.getD j 0 : Nat) : Int) := by decide +kernel
theorem tab_of {W : World} (h : laidMetH Tryd.prog Rows.slotsPlayRow.laid W) : tabR.holds W := by
  rw [MakeChecks.laidMetH_plain _ _ _ (by kernel_rfl), laid_is] at h
  have hT := Lib.tabIs_of_head gTab tTab Tryd.underlying84 Tryd.underlying5 (by kernel_rfl) (by kernel_rfl) h
  intro j hj
  have := hT.cell gTab j (by simpa [Lib.deBruijn64tab] using hj)
  rw [tab_at j hj] at this
  exact this
theorem door_met (os : Os) (args : Array Value) : laidMetH Tryd.prog Rows.slotsPlayRow.laid ((World.doorLaid Tryd.prog 400 os).forCall (fun _ _ => 0) ⟨#[], args, []⟩).memory :=
  laidMetH_of_parts3 (fuel := 8) (laidMet_of_run' 8 (by kernel_rfl) (by kernel_rfl)) (by kernel_rfl) (by kernel_rfl)
set_option maxRecDepth 100000 in
theorem lifted (os : Os) (started : os.Started) (H : Type) (enc : TypeId × Value → H) :
    ReturnsInHanded {} Tryd.checked os 4 .any (fun w args => (Rows.slotsPlaySpec.pre enc Tryd.prog Tryd.f4 Rows.slotsPlayRow.domain false w args ∧ laidMetH Tryd.prog Rows.slotsPlayRow.laid w) ∧ sizedMet enc Tryd.prog Tryd.f4 (OpenSpec.ofChange Rows.slotsPlaySpec) false w args) (Rows.slotsPlaySpec.post enc Tryd.prog Tryd.f4 false true false false) := by
  refine returnsInHanded_of_change_and (C := Tryd.checked) (X := fun w _ => laidMetH Tryd.prog Rows.slotsPlayRow.laid w) (fun _ _ _ hh h => h.of_heap hh) own started (by kernel_rfl) Tryd.func4
    (ChangeSpec.witness_shaped (enc := enc) (C := Tryd.checked) (os := os) (X := fun w _ => laidMetH Tryd.prog Rows.slotsPlayRow.laid w) false (World.doorLaid Tryd.prog 400 os) #[.slice none 0 0] 8 rfl (World.shaped_of_RefB (by kernel_rfl) (by kernel_rfl)) (by kernel_rfl) (by kernel_rfl) (by kernel_rfl) (door_met os _)) ?_
  intro W base args ds gs before hval0 hW hcnd _ hLaid _
  have hval : ∀ (j : Nat) t v, Tryd.f4.params[j]? = some t → args[j]? = some v → Value.okWide Tryd.prog W .any base t v := hval0
  have hW' := hW
  obtain ⟨p, q, hA0, hV, rfl, hfz, hnd⟩ := hW
  have hA : DataW.TrodAll enc Tryd.prog W 0 (fun _ => true) true Tryd.f4.params.toList args.toList ds p := hA0
  rw [Tryd.params4] at hA hval
  obtain ⟨v0, vs0, d0, ds0, p0, q0, hargs, rfl, rfl, h0, r0⟩ := trodAll_cons hA
  obtain ⟨rfl, rfl, rfl⟩ := trodAll_nil r0
  obtain rfl : args = #[v0] := by cases args; simp_all
  obtain ⟨rfl, rfl⟩ := trodVars_none hV
  have k0 := h0
  have lt0 : ∀ x ∈ p0, x.block < W.heap.size := by obtain ⟨m, hm⟩ := k0; exact DataW.trod_lt m _ _ _ hm
  obtain ⟨a0, len0, cap0, rfl⟩ := okWide_slice Tryd.underlying37 (hval 0 37 v0 rfl rfl)
  obtain ⟨fuel0, hf0⟩ := h0
  obtain ⟨L0, hl0, hR0, hM0, hW0⟩ := row_slice encSOp (fun x => (Lit.int .i64 x.kind).wf = true ∧ (Lit.int .i64 x.slot).wf = true ∧ ((Lit.int .u64 x.th.id).wf = true ∧ (Lit.int .u64 x.th.gen).wf = true ∧ (Lit.int .i64 x.th.due).wf = true)) Tryd.underlying37 (show Tryd.prog.cellsOf 41 = 5 by kernel_rfl) (fun h => dec41 h) hf0
  subst hl0
  clear hA0 hval0
  have hT := tab_of hLaid
  refine (answers (SlotsPlay_c a0 cap0 L0 W hR0 hT)).mono fun e W' ⟨he, bel⟩ => ?_
  subst he
  exact ⟨_, rfl, _, _, _, [], _, [], hW', trodAll_mk1 (shut_bool Tryd.underlying4 _), (trodAll_cons_mk (Below.trod laidOut (by kernel_rfl) (of_decide_eq_true (by kernel_rfl)) k0 bel lt0) trodAll_mk0), rfl, bel.frame _, fun h => by cases h⟩
theorem over : Rows.slotsPlayRow.holds Tryd.pinned (OpenSpec.ofChange Rows.slotsPlaySpec) :=
  OpenClaim.holds_of_wide 4 Tryd.f4 rfl rfl rfl rfl rfl rfl rfl ⟨rfl, rfl, rfl, rfl, rfl⟩ rfl rfl rfl rfl rfl (by kernel_rfl) Tryd.func4 (by kernel_rfl)
    (of_decide_eq_true (by kernel_rfl)) (by unfold Func.isWrapper; first | (rw [if_pos (by decide +kernel)]; kernel_rfl) | (rw [if_neg (by decide +kernel)]; exact ⟨rfl, rfl⟩))
    (fun os started H enc _ => lifted os started H enc)
theorem looks_none : Tryd.prog.looks [] = false := by kernel_rfl
/-- The statement. -/
theorem proved : Rows.SlotsPlayCardSaid :=
  Claim7.holds_tied_plain_at .later [] [.data] true (Rows.slotsPlayCard.stood.harness) false
    over (fun _ h => by cases h) (by kernel_rfl) (fun _ h => by cases h) slotsPlay_row_tie rfl ⟨rfl, rfl⟩ (by kernel_rfl) rfl
    (fun f fn hf hfn => by
      obtain rfl : f = 4 := Option.some.inj ((show Tryd.prog.funcNamed "curfew/curfewlaw11.SlotsPlay" = some 4 by kernel_rfl).symm.trans hf) |>.symm
      obtain rfl : fn = Tryd.f4 := (Option.some.inj (Tryd.func4.symm.trans hfn)).symm
      exact ⟨looks_none.symm, fun j t ht => by
        rw [Tryd.params4] at ht
        have h3 : t ∈ ([37] : List Nat) := by
          have := List.mem_of_getElem? (by simpa using ht : ([37] : List Nat)[j]? = some t)
          exact this
        simp at h3
        rcases h3 with rfl
        · exact (show Tryd.prog.wantsStandIn 37 = false by kernel_rfl)⟩)
    (by kernel_rfl)
end Go.Proofs.YtblipnjjgbggiaaDoor.slotsPlay
