/-
  No cell of these rows narrows 'for every input' (looked for: loops, veiled, ifaces, maps, wideKeys, modest, calm, conditions, laid).
  DERIVED. THE GIVEN ROWS OF THIS SEAT. 9 by the template 'for every input the law returns true; each argument reads behind the call as it read before'; 0 by the template 'total and deterministic' (their statements: YtnmglobfdlnenaaTotals.lean).
  GIVEN WITH THE SEED: the statements are not yours to turn. If you find one false, say at which input.
  Laid BY PROGRAM, IN A SANDBOX (cutbox-rows.mjs): the forced cells as the released guide's own fill.sh prints them over the translation 1d1fd2ec390e2100… (all of the seat's roots in one cut). By AI agents, Wed Nov 11 2026. No macro, syntax, notation, axiom, sorry.
-/
import Derived.Test.YtnmglobfdlnenaaChecked
import GoSem.Claim
import GoSem.ClaimJoined
import GoSem.ClaimMapViews
import Derived.JoinedTies
import Derived.KernelRfl
namespace Go.Proofs.Ytnmglobfdlnenaa
/- THE CELL 'sum', in the pinned program and in every row, IS THE sha256 OF THE DUMP (.gsa) THAT YtnmglobfdlnenaaProg.lean LOADS. Nothing in Lean hashes anything: it is a label: what it is worth is what the hold of that sum in a sandbox is worth. -/
noncomputable def Try.pinned : Pinned := { name := "ytnmglobfdlnenaa", sum := "1d1fd2ec390e21009feedcf6753d8ce1123380070973453e8c2dbd2c583e2dbd", checked := Try.checked }
namespace Rows
def none {H : Type} : Left H := { results := [], args := [] }

/-- 'curfewlaw06.DiceBounds': WHATEVER THE INPUT: true; the input reads as it did. -/
def diceBoundsSpec : ChangeSpec := { name := "diceBounds", fn := fun _ => fun
  | [d1, d2, d3, d4, d5] => { results := [.lit (.bool true)], args := [d1, d2, d3, d4, d5] }
  | _ => none }
def diceBoundsRow : OpenClaim := { program := "ytnmglobfdlnenaa", sum := "1d1fd2ec390e21009feedcf6753d8ce1123380070973453e8c2dbd2c583e2dbd", func := "curfew/curfewlaw06.DiceBounds", spec := "diceBounds", unfollowed := true, recurses := true, apart := false }
def DiceBoundsSaid : Prop := diceBoundsRow.holds Try.pinned (OpenSpec.ofChange diceBoundsSpec)

/-- ITS FALSE NEIGHBOUR: 'it returns false'. Refute it at one input. -/
def diceBoundsWrong : ChangeSpec := { name := "diceBounds", fn := fun _ => fun
  | [d1, d2, d3, d4, d5] => { results := [.lit (.bool false)], args := [d1, d2, d3, d4, d5] }
  | _ => none }
def DiceBoundsWrongFalsely : Prop := diceBoundsRow.holds Try.pinned (OpenSpec.ofChange diceBoundsWrong)

/-- 'curfewlaw09.AlmanacTells': WHATEVER THE INPUT: true; the input reads as it did. -/
def almanacTellsSpec : ChangeSpec := { name := "almanacTells", fn := fun _ => fun
  | [d1, d2] => { results := [.lit (.bool true)], args := [d1, d2] }
  | _ => none }
def almanacTellsRow : OpenClaim := { program := "ytnmglobfdlnenaa", sum := "1d1fd2ec390e21009feedcf6753d8ce1123380070973453e8c2dbd2c583e2dbd", func := "curfew/curfewlaw09.AlmanacTells", spec := "almanacTells", unfollowed := true, recurses := true, apart := false }
def AlmanacTellsSaid : Prop := almanacTellsRow.holds Try.pinned (OpenSpec.ofChange almanacTellsSpec)

/-- ITS FALSE NEIGHBOUR: 'it returns false'. Refute it at one input. -/
def almanacTellsWrong : ChangeSpec := { name := "almanacTells", fn := fun _ => fun
  | [d1, d2] => { results := [.lit (.bool false)], args := [d1, d2] }
  | _ => none }
def AlmanacTellsWrongFalsely : Prop := almanacTellsRow.holds Try.pinned (OpenSpec.ofChange almanacTellsWrong)

/-- 'curfewlaw09.AlmanacFree': WHATEVER THE INPUT: true; the input reads as it did. -/
def almanacFreeSpec : ChangeSpec := { name := "almanacFree", fn := fun _ => fun
  | [d1, d2, d3, d4, d5] => { results := [.lit (.bool true)], args := [d1, d2, d3, d4, d5] }
  | _ => none }
def almanacFreeRow : OpenClaim := { program := "ytnmglobfdlnenaa", sum := "1d1fd2ec390e21009feedcf6753d8ce1123380070973453e8c2dbd2c583e2dbd", func := "curfew/curfewlaw09.AlmanacFree", spec := "almanacFree", unfollowed := true, recurses := true, apart := false }
def AlmanacFreeSaid : Prop := almanacFreeRow.holds Try.pinned (OpenSpec.ofChange almanacFreeSpec)

/-- ITS FALSE NEIGHBOUR: 'it returns false'. Refute it at one input. -/
def almanacFreeWrong : ChangeSpec := { name := "almanacFree", fn := fun _ => fun
  | [d1, d2, d3, d4, d5] => { results := [.lit (.bool false)], args := [d1, d2, d3, d4, d5] }
  | _ => none }
def AlmanacFreeWrongFalsely : Prop := almanacFreeRow.holds Try.pinned (OpenSpec.ofChange almanacFreeWrong)

/-- 'curfewlaw09.AlmanacAll': WHATEVER THE INPUT: true; the input reads as it did. -/
def almanacAllSpec : ChangeSpec := { name := "almanacAll", fn := fun _ => fun
  | [d1, d2, d3] => { results := [.lit (.bool true)], args := [d1, d2, d3] }
  | _ => none }
def almanacAllRow : OpenClaim := { program := "ytnmglobfdlnenaa", sum := "1d1fd2ec390e21009feedcf6753d8ce1123380070973453e8c2dbd2c583e2dbd", func := "curfew/curfewlaw09.AlmanacAll", spec := "almanacAll", unfollowed := true, recurses := true, apart := false }
def AlmanacAllSaid : Prop := almanacAllRow.holds Try.pinned (OpenSpec.ofChange almanacAllSpec)

/-- ITS FALSE NEIGHBOUR: 'it returns false'. Refute it at one input. -/
def almanacAllWrong : ChangeSpec := { name := "almanacAll", fn := fun _ => fun
  | [d1, d2, d3] => { results := [.lit (.bool false)], args := [d1, d2, d3] }
  | _ => none }
def AlmanacAllWrongFalsely : Prop := almanacAllRow.holds Try.pinned (OpenSpec.ofChange almanacAllWrong)

/-- 'curfewlaw09.AlmanacNobody': WHATEVER THE INPUT: true; the input reads as it did. -/
def almanacNobodySpec : ChangeSpec := { name := "almanacNobody", fn := fun _ => fun
  | [d1, d2, d3] => { results := [.lit (.bool true)], args := [d1, d2, d3] }
  | _ => none }
def almanacNobodyRow : OpenClaim := { program := "ytnmglobfdlnenaa", sum := "1d1fd2ec390e21009feedcf6753d8ce1123380070973453e8c2dbd2c583e2dbd", func := "curfew/curfewlaw09.AlmanacNobody", spec := "almanacNobody", unfollowed := true, recurses := true, apart := false }
def AlmanacNobodySaid : Prop := almanacNobodyRow.holds Try.pinned (OpenSpec.ofChange almanacNobodySpec)

/-- ITS FALSE NEIGHBOUR: 'it returns false'. Refute it at one input. -/
def almanacNobodyWrong : ChangeSpec := { name := "almanacNobody", fn := fun _ => fun
  | [d1, d2, d3] => { results := [.lit (.bool false)], args := [d1, d2, d3] }
  | _ => none }
def AlmanacNobodyWrongFalsely : Prop := almanacNobodyRow.holds Try.pinned (OpenSpec.ofChange almanacNobodyWrong)

/-- 'curfewlaw07.SpanJoins': WHATEVER THE INPUT: true; the input reads as it did. -/
def spanJoinsSpec : ChangeSpec := { name := "spanJoins", fn := fun _ => fun
  | [d1, d2] => { results := [.lit (.bool true)], args := [d1, d2] }
  | _ => none }
def spanJoinsRow : OpenClaim := { program := "ytnmglobfdlnenaa", sum := "1d1fd2ec390e21009feedcf6753d8ce1123380070973453e8c2dbd2c583e2dbd", func := "curfew/curfewlaw07.SpanJoins", spec := "spanJoins", unfollowed := true, recurses := true, apart := false }
def SpanJoinsSaid : Prop := spanJoinsRow.holds Try.pinned (OpenSpec.ofChange spanJoinsSpec)

/-- ITS FALSE NEIGHBOUR: 'it returns false'. Refute it at one input. -/
def spanJoinsWrong : ChangeSpec := { name := "spanJoins", fn := fun _ => fun
  | [d1, d2] => { results := [.lit (.bool false)], args := [d1, d2] }
  | _ => none }
def SpanJoinsWrongFalsely : Prop := spanJoinsRow.holds Try.pinned (OpenSpec.ofChange spanJoinsWrong)

/-- 'curfewlaw07.SpanSides': WHATEVER THE INPUT: true; the input reads as it did. -/
def spanSidesSpec : ChangeSpec := { name := "spanSides", fn := fun _ => fun
  | [d1, d2, d3] => { results := [.lit (.bool true)], args := [d1, d2, d3] }
  | _ => none }
def spanSidesRow : OpenClaim := { program := "ytnmglobfdlnenaa", sum := "1d1fd2ec390e21009feedcf6753d8ce1123380070973453e8c2dbd2c583e2dbd", func := "curfew/curfewlaw07.SpanSides", spec := "spanSides", unfollowed := true, recurses := true, apart := false }
def SpanSidesSaid : Prop := spanSidesRow.holds Try.pinned (OpenSpec.ofChange spanSidesSpec)

/-- ITS FALSE NEIGHBOUR: 'it returns false'. Refute it at one input. -/
def spanSidesWrong : ChangeSpec := { name := "spanSides", fn := fun _ => fun
  | [d1, d2, d3] => { results := [.lit (.bool false)], args := [d1, d2, d3] }
  | _ => none }
def SpanSidesWrongFalsely : Prop := spanSidesRow.holds Try.pinned (OpenSpec.ofChange spanSidesWrong)

/-- 'curfewlaw07.SpanTells': WHATEVER THE INPUT: true; the input reads as it did. -/
def spanTellsSpec : ChangeSpec := { name := "spanTells", fn := fun _ => fun
  | [d1, d2, d3, d4] => { results := [.lit (.bool true)], args := [d1, d2, d3, d4] }
  | _ => none }
def spanTellsRow : OpenClaim := { program := "ytnmglobfdlnenaa", sum := "1d1fd2ec390e21009feedcf6753d8ce1123380070973453e8c2dbd2c583e2dbd", func := "curfew/curfewlaw07.SpanTells", spec := "spanTells", unfollowed := true, recurses := true, apart := false }
def SpanTellsSaid : Prop := spanTellsRow.holds Try.pinned (OpenSpec.ofChange spanTellsSpec)

/-- ITS FALSE NEIGHBOUR: 'it returns false'. Refute it at one input. -/
def spanTellsWrong : ChangeSpec := { name := "spanTells", fn := fun _ => fun
  | [d1, d2, d3, d4] => { results := [.lit (.bool false)], args := [d1, d2, d3, d4] }
  | _ => none }
def SpanTellsWrongFalsely : Prop := spanTellsRow.holds Try.pinned (OpenSpec.ofChange spanTellsWrong)

/-- 'curfewlaw07.SpanBoth': WHATEVER THE INPUT: true; the input reads as it did. -/
def spanBothSpec : ChangeSpec := { name := "spanBoth", fn := fun _ => fun
  | [d1, d2] => { results := [.lit (.bool true)], args := [d1, d2] }
  | _ => none }
def spanBothRow : OpenClaim := { program := "ytnmglobfdlnenaa", sum := "1d1fd2ec390e21009feedcf6753d8ce1123380070973453e8c2dbd2c583e2dbd", func := "curfew/curfewlaw07.SpanBoth", spec := "spanBoth", unfollowed := true, recurses := true, apart := false }
def SpanBothSaid : Prop := spanBothRow.holds Try.pinned (OpenSpec.ofChange spanBothSpec)

/-- ITS FALSE NEIGHBOUR: 'it returns false'. Refute it at one input. -/
def spanBothWrong : ChangeSpec := { name := "spanBoth", fn := fun _ => fun
  | [d1, d2] => { results := [.lit (.bool false)], args := [d1, d2] }
  | _ => none }
def SpanBothWrongFalsely : Prop := spanBothRow.holds Try.pinned (OpenSpec.ofChange spanBothWrong)

/- THE SECOND FORM. 'bulk': how many values and letters a reading holds, each counted each time it is reached (what is shared counts as often as it is met; a slice's spare places count too). A statement '..UptoSaid' is the law's where the arguments, and the package variables that the reading takes, are together of bulk at most 1048576: NARROWER than '..Said'. Prove '..Said' where nothing that the law and all that it calls make is longer than what came in: it says more and counts as full. Else prove '..UptoSaid'. A law counts once. -/
mutual
def uptoBulk {H : Type} : DataW H → Nat
  | .lit (.string bytes) => bytes.length + 1
  | .lit _ => 1
  | .nil => 1
  | .ptr d => uptoBulk d + 1
  | .slice elems spare => uptoBulkAll elems + uptoBulkAll spare + 1
  | .agg parts => uptoBulkAll parts + 1
  | .iface _ d => uptoBulk d + 1
  | .map entries => uptoBulkEntries entries + 1
  | .held _ => 1
def uptoBulkAll {H : Type} : List (DataW H) → Nat
  | [] => 0
  | d :: r => uptoBulk d + uptoBulkAll r
def uptoBulkEntries {H : Type} : List (Lit × DataW H) → Nat
  | [] => 0
  | x :: r => uptoBulkEntry x + uptoBulkEntries r
def uptoBulkEntry {H : Type} : Lit × DataW H → Nat
  | (.string bytes, d) => bytes.length + uptoBulk d + 1
  | (_, d) => uptoBulk d + 1
 end
def uptoSmall : (H : Type) → List (DataW H) → Bool := fun _ ds => decide (uptoBulkAll ds ≤ 1048576)
def OpenSpec.upto (s : _root_.Go.ChangeSpec) : _root_.Go.OpenSpec := { _root_.Go.OpenSpec.ofChange s with cond := some uptoSmall }

/-- 'curfewlaw06.DiceBounds', WHERE WHAT IT READS IS OF BULK AT MOST 1048576: true; the input reads as it did. -/
def diceBoundsUptoRow : OpenClaim := { program := "ytnmglobfdlnenaa", sum := "1d1fd2ec390e21009feedcf6753d8ce1123380070973453e8c2dbd2c583e2dbd", func := "curfew/curfewlaw06.DiceBounds", spec := "diceBounds", unfollowed := true, recurses := true, apart := false, narrowed := true }
def DiceBoundsUptoSaid : Prop := diceBoundsUptoRow.holds Try.pinned (OpenSpec.upto diceBoundsSpec)

/-- 'curfewlaw09.AlmanacTells', WHERE WHAT IT READS IS OF BULK AT MOST 1048576: true; the input reads as it did. -/
def almanacTellsUptoRow : OpenClaim := { program := "ytnmglobfdlnenaa", sum := "1d1fd2ec390e21009feedcf6753d8ce1123380070973453e8c2dbd2c583e2dbd", func := "curfew/curfewlaw09.AlmanacTells", spec := "almanacTells", unfollowed := true, recurses := true, apart := false, narrowed := true }
def AlmanacTellsUptoSaid : Prop := almanacTellsUptoRow.holds Try.pinned (OpenSpec.upto almanacTellsSpec)

/-- 'curfewlaw09.AlmanacFree', WHERE WHAT IT READS IS OF BULK AT MOST 1048576: true; the input reads as it did. -/
def almanacFreeUptoRow : OpenClaim := { program := "ytnmglobfdlnenaa", sum := "1d1fd2ec390e21009feedcf6753d8ce1123380070973453e8c2dbd2c583e2dbd", func := "curfew/curfewlaw09.AlmanacFree", spec := "almanacFree", unfollowed := true, recurses := true, apart := false, narrowed := true }
def AlmanacFreeUptoSaid : Prop := almanacFreeUptoRow.holds Try.pinned (OpenSpec.upto almanacFreeSpec)

/-- 'curfewlaw09.AlmanacAll', WHERE WHAT IT READS IS OF BULK AT MOST 1048576: true; the input reads as it did. -/
def almanacAllUptoRow : OpenClaim := { program := "ytnmglobfdlnenaa", sum := "1d1fd2ec390e21009feedcf6753d8ce1123380070973453e8c2dbd2c583e2dbd", func := "curfew/curfewlaw09.AlmanacAll", spec := "almanacAll", unfollowed := true, recurses := true, apart := false, narrowed := true }
def AlmanacAllUptoSaid : Prop := almanacAllUptoRow.holds Try.pinned (OpenSpec.upto almanacAllSpec)

/-- 'curfewlaw09.AlmanacNobody', WHERE WHAT IT READS IS OF BULK AT MOST 1048576: true; the input reads as it did. -/
def almanacNobodyUptoRow : OpenClaim := { program := "ytnmglobfdlnenaa", sum := "1d1fd2ec390e21009feedcf6753d8ce1123380070973453e8c2dbd2c583e2dbd", func := "curfew/curfewlaw09.AlmanacNobody", spec := "almanacNobody", unfollowed := true, recurses := true, apart := false, narrowed := true }
def AlmanacNobodyUptoSaid : Prop := almanacNobodyUptoRow.holds Try.pinned (OpenSpec.upto almanacNobodySpec)

/-- 'curfewlaw07.SpanJoins', WHERE WHAT IT READS IS OF BULK AT MOST 1048576: true; the input reads as it did. -/
def spanJoinsUptoRow : OpenClaim := { program := "ytnmglobfdlnenaa", sum := "1d1fd2ec390e21009feedcf6753d8ce1123380070973453e8c2dbd2c583e2dbd", func := "curfew/curfewlaw07.SpanJoins", spec := "spanJoins", unfollowed := true, recurses := true, apart := false, narrowed := true }
def SpanJoinsUptoSaid : Prop := spanJoinsUptoRow.holds Try.pinned (OpenSpec.upto spanJoinsSpec)

/-- 'curfewlaw07.SpanSides', WHERE WHAT IT READS IS OF BULK AT MOST 1048576: true; the input reads as it did. -/
def spanSidesUptoRow : OpenClaim := { program := "ytnmglobfdlnenaa", sum := "1d1fd2ec390e21009feedcf6753d8ce1123380070973453e8c2dbd2c583e2dbd", func := "curfew/curfewlaw07.SpanSides", spec := "spanSides", unfollowed := true, recurses := true, apart := false, narrowed := true }
def SpanSidesUptoSaid : Prop := spanSidesUptoRow.holds Try.pinned (OpenSpec.upto spanSidesSpec)

/-- 'curfewlaw07.SpanTells', WHERE WHAT IT READS IS OF BULK AT MOST 1048576: true; the input reads as it did. -/
def spanTellsUptoRow : OpenClaim := { program := "ytnmglobfdlnenaa", sum := "1d1fd2ec390e21009feedcf6753d8ce1123380070973453e8c2dbd2c583e2dbd", func := "curfew/curfewlaw07.SpanTells", spec := "spanTells", unfollowed := true, recurses := true, apart := false, narrowed := true }
def SpanTellsUptoSaid : Prop := spanTellsUptoRow.holds Try.pinned (OpenSpec.upto spanTellsSpec)

/-- 'curfewlaw07.SpanBoth', WHERE WHAT IT READS IS OF BULK AT MOST 1048576: true; the input reads as it did. -/
def spanBothUptoRow : OpenClaim := { program := "ytnmglobfdlnenaa", sum := "1d1fd2ec390e21009feedcf6753d8ce1123380070973453e8c2dbd2c583e2dbd", func := "curfew/curfewlaw07.SpanBoth", spec := "spanBoth", unfollowed := true, recurses := true, apart := false, narrowed := true }
def SpanBothUptoSaid : Prop := spanBothUptoRow.holds Try.pinned (OpenSpec.upto spanBothSpec)

end Rows
end Go.Proofs.Ytnmglobfdlnenaa
