/-
  No cell of these rows narrows 'for every input' (looked for: loops, veiled, ifaces, maps, wideKeys, modest, calm, conditions, laid).
  DERIVED. THE GIVEN ROWS OF THIS SEAT. 10 by the template 'for every input the law returns true; each argument reads behind the call as it read before'; 0 by the template 'total and deterministic' (their statements: YtblipnjjgbggiaaTotals.lean).
  GIVEN WITH THE SEED: the statements are not yours to turn. If you find one false, say at which input.
  Laid BY PROGRAM, IN A SANDBOX (cutbox-rows.mjs): the forced cells as the released guide's own fill.sh prints them over the translation 9ca189ff4225551c… (all of the seat's roots in one cut). By AI agents, Wed Nov 11 2026. No macro, syntax, notation, axiom, sorry.
-/
import Derived.Test.YtblipnjjgbggiaaChecked
import GoSem.Claim
import GoSem.ClaimJoined
import GoSem.ClaimMapViews
import Derived.JoinedTies
import Derived.KernelRfl
namespace Go.Proofs.Ytblipnjjgbggiaa
/- THE CELL 'sum', in the pinned program and in every row, IS THE sha256 OF THE DUMP (.gsa) THAT YtblipnjjgbggiaaProg.lean LOADS. Nothing in Lean hashes anything: it is a label: what it is worth is what the hold of that sum in a sandbox is worth. -/
noncomputable def Try.pinned : Pinned := { name := "ytblipnjjgbggiaa", sum := "9ca189ff4225551ca9db854c1026c10e1e71402f093e2622bb02d1bcf133811e", checked := Try.checked }
namespace Rows
def none {H : Type} : Left H := { results := [], args := [] }

/-- 'curfewlaw12.WheelFires': WHATEVER THE INPUT: true; the input reads as it did. -/
def wheelFiresSpec : ChangeSpec := { name := "wheelFires", fn := fun _ => fun
  | [d1, d2, d3] => { results := [.lit (.bool true)], args := [d1, d2, d3] }
  | _ => none }
def wheelFiresRow : OpenClaim := { program := "ytblipnjjgbggiaa", sum := "9ca189ff4225551ca9db854c1026c10e1e71402f093e2622bb02d1bcf133811e", func := "curfew/curfewlaw12.WheelFires", spec := "wheelFires", unfollowed := true, recurses := true, apart := false }
def WheelFiresSaid : Prop := wheelFiresRow.holds Try.pinned (OpenSpec.ofChange wheelFiresSpec)

/-- ITS FALSE NEIGHBOUR: 'it returns false'. Refute it at one input. -/
def wheelFiresWrong : ChangeSpec := { name := "wheelFires", fn := fun _ => fun
  | [d1, d2, d3] => { results := [.lit (.bool false)], args := [d1, d2, d3] }
  | _ => none }
def WheelFiresWrongFalsely : Prop := wheelFiresRow.holds Try.pinned (OpenSpec.ofChange wheelFiresWrong)

/-- 'curfewlaw12.WheelSteps': WHATEVER THE INPUT: true; the input reads as it did. -/
def wheelStepsSpec : ChangeSpec := { name := "wheelSteps", fn := fun _ => fun
  | [d1, d2, d3, d4] => { results := [.lit (.bool true)], args := [d1, d2, d3, d4] }
  | _ => none }
def wheelStepsRow : OpenClaim := { program := "ytblipnjjgbggiaa", sum := "9ca189ff4225551ca9db854c1026c10e1e71402f093e2622bb02d1bcf133811e", func := "curfew/curfewlaw12.WheelSteps", spec := "wheelSteps", unfollowed := true, recurses := true, apart := false }
def WheelStepsSaid : Prop := wheelStepsRow.holds Try.pinned (OpenSpec.ofChange wheelStepsSpec)

/-- ITS FALSE NEIGHBOUR: 'it returns false'. Refute it at one input. -/
def wheelStepsWrong : ChangeSpec := { name := "wheelSteps", fn := fun _ => fun
  | [d1, d2, d3, d4] => { results := [.lit (.bool false)], args := [d1, d2, d3, d4] }
  | _ => none }
def WheelStepsWrongFalsely : Prop := wheelStepsRow.holds Try.pinned (OpenSpec.ofChange wheelStepsWrong)

/-- 'curfewlaw12.WheelFull': WHATEVER THE INPUT: true; the input reads as it did. -/
def wheelFullSpec : ChangeSpec := { name := "wheelFull", fn := fun _ => fun
  | [d1, d2, d3] => { results := [.lit (.bool true)], args := [d1, d2, d3] }
  | _ => none }
def wheelFullRow : OpenClaim := { program := "ytblipnjjgbggiaa", sum := "9ca189ff4225551ca9db854c1026c10e1e71402f093e2622bb02d1bcf133811e", func := "curfew/curfewlaw12.WheelFull", spec := "wheelFull", unfollowed := true, recurses := true, apart := false }
def WheelFullSaid : Prop := wheelFullRow.holds Try.pinned (OpenSpec.ofChange wheelFullSpec)

/-- ITS FALSE NEIGHBOUR: 'it returns false'. Refute it at one input. -/
def wheelFullWrong : ChangeSpec := { name := "wheelFull", fn := fun _ => fun
  | [d1, d2, d3] => { results := [.lit (.bool false)], args := [d1, d2, d3] }
  | _ => none }
def WheelFullWrongFalsely : Prop := wheelFullRow.holds Try.pinned (OpenSpec.ofChange wheelFullWrong)

/-- 'curfewlaw12.WheelPlays': WHATEVER THE INPUT: true; the input reads as it did. -/
def wheelPlaysSpec : ChangeSpec := { name := "wheelPlays", fn := fun _ => fun
  | [d1, d2] => { results := [.lit (.bool true)], args := [d1, d2] }
  | _ => none }
def wheelPlaysRow : OpenClaim := { program := "ytblipnjjgbggiaa", sum := "9ca189ff4225551ca9db854c1026c10e1e71402f093e2622bb02d1bcf133811e", func := "curfew/curfewlaw12.WheelPlays", spec := "wheelPlays", unfollowed := true, recurses := true, apart := false }
def WheelPlaysSaid : Prop := wheelPlaysRow.holds Try.pinned (OpenSpec.ofChange wheelPlaysSpec)

/-- ITS FALSE NEIGHBOUR: 'it returns false'. Refute it at one input. -/
def wheelPlaysWrong : ChangeSpec := { name := "wheelPlays", fn := fun _ => fun
  | [d1, d2] => { results := [.lit (.bool false)], args := [d1, d2] }
  | _ => none }
def WheelPlaysWrongFalsely : Prop := wheelPlaysRow.holds Try.pinned (OpenSpec.ofChange wheelPlaysWrong)

/-- 'curfewlaw12.WheelNobody': WHATEVER THE INPUT: true; the input reads as it did. -/
def wheelNobodySpec : ChangeSpec := { name := "wheelNobody", fn := fun _ => fun
  | [d1, d2] => { results := [.lit (.bool true)], args := [d1, d2] }
  | _ => none }
def wheelNobodyRow : OpenClaim := { program := "ytblipnjjgbggiaa", sum := "9ca189ff4225551ca9db854c1026c10e1e71402f093e2622bb02d1bcf133811e", func := "curfew/curfewlaw12.WheelNobody", spec := "wheelNobody", unfollowed := true, recurses := true, apart := false }
def WheelNobodySaid : Prop := wheelNobodyRow.holds Try.pinned (OpenSpec.ofChange wheelNobodySpec)

/-- ITS FALSE NEIGHBOUR: 'it returns false'. Refute it at one input. -/
def wheelNobodyWrong : ChangeSpec := { name := "wheelNobody", fn := fun _ => fun
  | [d1, d2] => { results := [.lit (.bool false)], args := [d1, d2] }
  | _ => none }
def WheelNobodyWrongFalsely : Prop := wheelNobodyRow.holds Try.pinned (OpenSpec.ofChange wheelNobodyWrong)

/-- 'curfewlaw13.DeadlineOnce': WHATEVER THE INPUT: true; the input reads as it did. -/
def deadlineOnceSpec : ChangeSpec := { name := "deadlineOnce", fn := fun _ => fun
  | [d1, d2] => { results := [.lit (.bool true)], args := [d1, d2] }
  | _ => none }
def deadlineOnceRow : OpenClaim := { program := "ytblipnjjgbggiaa", sum := "9ca189ff4225551ca9db854c1026c10e1e71402f093e2622bb02d1bcf133811e", func := "curfew/curfewlaw13.DeadlineOnce", spec := "deadlineOnce", unfollowed := true, recurses := true, apart := false }
def DeadlineOnceSaid : Prop := deadlineOnceRow.holds Try.pinned (OpenSpec.ofChange deadlineOnceSpec)

/-- ITS FALSE NEIGHBOUR: 'it returns false'. Refute it at one input. -/
def deadlineOnceWrong : ChangeSpec := { name := "deadlineOnce", fn := fun _ => fun
  | [d1, d2] => { results := [.lit (.bool false)], args := [d1, d2] }
  | _ => none }
def DeadlineOnceWrongFalsely : Prop := deadlineOnceRow.holds Try.pinned (OpenSpec.ofChange deadlineOnceWrong)

/-- 'curfewlaw13.DeadlinePlays': WHATEVER THE INPUT: true; the input reads as it did. -/
def deadlinePlaysSpec : ChangeSpec := { name := "deadlinePlays", fn := fun _ => fun
  | [d1, d2] => { results := [.lit (.bool true)], args := [d1, d2] }
  | _ => none }
def deadlinePlaysRow : OpenClaim := { program := "ytblipnjjgbggiaa", sum := "9ca189ff4225551ca9db854c1026c10e1e71402f093e2622bb02d1bcf133811e", func := "curfew/curfewlaw13.DeadlinePlays", spec := "deadlinePlays", unfollowed := true, recurses := true, apart := false }
def DeadlinePlaysSaid : Prop := deadlinePlaysRow.holds Try.pinned (OpenSpec.ofChange deadlinePlaysSpec)

/-- ITS FALSE NEIGHBOUR: 'it returns false'. Refute it at one input. -/
def deadlinePlaysWrong : ChangeSpec := { name := "deadlinePlays", fn := fun _ => fun
  | [d1, d2] => { results := [.lit (.bool false)], args := [d1, d2] }
  | _ => none }
def DeadlinePlaysWrongFalsely : Prop := deadlinePlaysRow.holds Try.pinned (OpenSpec.ofChange deadlinePlaysWrong)

/-- 'curfewlaw13.DeadlineApart': WHATEVER THE INPUT: true; the input reads as it did. -/
def deadlineApartSpec : ChangeSpec := { name := "deadlineApart", fn := fun _ => fun
  | [d1, d2, d3] => { results := [.lit (.bool true)], args := [d1, d2, d3] }
  | _ => none }
def deadlineApartRow : OpenClaim := { program := "ytblipnjjgbggiaa", sum := "9ca189ff4225551ca9db854c1026c10e1e71402f093e2622bb02d1bcf133811e", func := "curfew/curfewlaw13.DeadlineApart", spec := "deadlineApart", unfollowed := true, recurses := true, apart := false }
def DeadlineApartSaid : Prop := deadlineApartRow.holds Try.pinned (OpenSpec.ofChange deadlineApartSpec)

/-- ITS FALSE NEIGHBOUR: 'it returns false'. Refute it at one input. -/
def deadlineApartWrong : ChangeSpec := { name := "deadlineApart", fn := fun _ => fun
  | [d1, d2, d3] => { results := [.lit (.bool false)], args := [d1, d2, d3] }
  | _ => none }
def DeadlineApartWrongFalsely : Prop := deadlineApartRow.holds Try.pinned (OpenSpec.ofChange deadlineApartWrong)

/-- 'curfewlaw13.DeadlineNobody': WHATEVER THE INPUT: true; the input reads as it did. -/
def deadlineNobodySpec : ChangeSpec := { name := "deadlineNobody", fn := fun _ => fun
  | [d1, d2] => { results := [.lit (.bool true)], args := [d1, d2] }
  | _ => none }
def deadlineNobodyRow : OpenClaim := { program := "ytblipnjjgbggiaa", sum := "9ca189ff4225551ca9db854c1026c10e1e71402f093e2622bb02d1bcf133811e", func := "curfew/curfewlaw13.DeadlineNobody", spec := "deadlineNobody", unfollowed := true, recurses := true, apart := false }
def DeadlineNobodySaid : Prop := deadlineNobodyRow.holds Try.pinned (OpenSpec.ofChange deadlineNobodySpec)

/-- ITS FALSE NEIGHBOUR: 'it returns false'. Refute it at one input. -/
def deadlineNobodyWrong : ChangeSpec := { name := "deadlineNobody", fn := fun _ => fun
  | [d1, d2] => { results := [.lit (.bool false)], args := [d1, d2] }
  | _ => none }
def DeadlineNobodyWrongFalsely : Prop := deadlineNobodyRow.holds Try.pinned (OpenSpec.ofChange deadlineNobodyWrong)

/-- 'curfewlaw13.DeadlineBytes': WHATEVER THE INPUT: true; the input reads as it did. -/
def deadlineBytesSpec : ChangeSpec := { name := "deadlineBytes", fn := fun _ => fun
  | [d1, d2, d3] => { results := [.lit (.bool true)], args := [d1, d2, d3] }
  | _ => none }
def deadlineBytesRow : OpenClaim := { program := "ytblipnjjgbggiaa", sum := "9ca189ff4225551ca9db854c1026c10e1e71402f093e2622bb02d1bcf133811e", func := "curfew/curfewlaw13.DeadlineBytes", spec := "deadlineBytes", unfollowed := true, recurses := true, apart := false }
def DeadlineBytesSaid : Prop := deadlineBytesRow.holds Try.pinned (OpenSpec.ofChange deadlineBytesSpec)

/-- ITS FALSE NEIGHBOUR: 'it returns false'. Refute it at one input. -/
def deadlineBytesWrong : ChangeSpec := { name := "deadlineBytes", fn := fun _ => fun
  | [d1, d2, d3] => { results := [.lit (.bool false)], args := [d1, d2, d3] }
  | _ => none }
def DeadlineBytesWrongFalsely : Prop := deadlineBytesRow.holds Try.pinned (OpenSpec.ofChange deadlineBytesWrong)

/- THE SECOND FORM. 'bulk': how many values and letters a reading holds, each counted each time it is reached (what is shared counts as often as it is met; a slice's spare places count too). A statement '..UptoSaid' is the law's where the arguments, and the package variables that the reading takes, are together of bulk at most 1048576: NARROWER than '..Said'. Prove '..Said' where nothing that the law and all that it calls make is longer than what came in: it says more and counts as full. Else prove '..UptoSaid'. A law counts once. -/
mutual
def uptoBulk {H : Type} : DataW H → Nat
  | .lit (.string bytes) => bytes.length + 1
  | .lit _ => 1
  | .nil => 1
  | .ptr d => uptoBulk d + 1
  | .slice elems spare => uptoBulkAll elems + uptoBulkAll spare + 1
  | .agg parts => uptoBulkAll parts + 1
  | .iface _ d => uptoBulk d + 1
  | .map entries => uptoBulkEntries entries + 1
  | .held _ => 1
def uptoBulkAll {H : Type} : List (DataW H) → Nat
  | [] => 0
  | d :: r => uptoBulk d + uptoBulkAll r
def uptoBulkEntries {H : Type} : List (Lit × DataW H) → Nat
  | [] => 0
  | x :: r => uptoBulkEntry x + uptoBulkEntries r
def uptoBulkEntry {H : Type} : Lit × DataW H → Nat
  | (.string bytes, d) => bytes.length + uptoBulk d + 1
  | (_, d) => uptoBulk d + 1
 end
def uptoSmall : (H : Type) → List (DataW H) → Bool := fun _ ds => decide (uptoBulkAll ds ≤ 1048576)
def OpenSpec.upto (s : _root_.Go.ChangeSpec) : _root_.Go.OpenSpec := { _root_.Go.OpenSpec.ofChange s with cond := some uptoSmall }

/-- 'curfewlaw12.WheelFires', WHERE WHAT IT READS IS OF BULK AT MOST 1048576: true; the input reads as it did. -/
def wheelFiresUptoRow : OpenClaim := { program := "ytblipnjjgbggiaa", sum := "9ca189ff4225551ca9db854c1026c10e1e71402f093e2622bb02d1bcf133811e", func := "curfew/curfewlaw12.WheelFires", spec := "wheelFires", unfollowed := true, recurses := true, apart := false, narrowed := true }
def WheelFiresUptoSaid : Prop := wheelFiresUptoRow.holds Try.pinned (OpenSpec.upto wheelFiresSpec)

/-- 'curfewlaw12.WheelSteps', WHERE WHAT IT READS IS OF BULK AT MOST 1048576: true; the input reads as it did. -/
def wheelStepsUptoRow : OpenClaim := { program := "ytblipnjjgbggiaa", sum := "9ca189ff4225551ca9db854c1026c10e1e71402f093e2622bb02d1bcf133811e", func := "curfew/curfewlaw12.WheelSteps", spec := "wheelSteps", unfollowed := true, recurses := true, apart := false, narrowed := true }
def WheelStepsUptoSaid : Prop := wheelStepsUptoRow.holds Try.pinned (OpenSpec.upto wheelStepsSpec)

/-- 'curfewlaw12.WheelFull', WHERE WHAT IT READS IS OF BULK AT MOST 1048576: true; the input reads as it did. -/
def wheelFullUptoRow : OpenClaim := { program := "ytblipnjjgbggiaa", sum := "9ca189ff4225551ca9db854c1026c10e1e71402f093e2622bb02d1bcf133811e", func := "curfew/curfewlaw12.WheelFull", spec := "wheelFull", unfollowed := true, recurses := true, apart := false, narrowed := true }
def WheelFullUptoSaid : Prop := wheelFullUptoRow.holds Try.pinned (OpenSpec.upto wheelFullSpec)

/-- 'curfewlaw12.WheelPlays', WHERE WHAT IT READS IS OF BULK AT MOST 1048576: true; the input reads as it did. -/
def wheelPlaysUptoRow : OpenClaim := { program := "ytblipnjjgbggiaa", sum := "9ca189ff4225551ca9db854c1026c10e1e71402f093e2622bb02d1bcf133811e", func := "curfew/curfewlaw12.WheelPlays", spec := "wheelPlays", unfollowed := true, recurses := true, apart := false, narrowed := true }
def WheelPlaysUptoSaid : Prop := wheelPlaysUptoRow.holds Try.pinned (OpenSpec.upto wheelPlaysSpec)

/-- 'curfewlaw12.WheelNobody', WHERE WHAT IT READS IS OF BULK AT MOST 1048576: true; the input reads as it did. -/
def wheelNobodyUptoRow : OpenClaim := { program := "ytblipnjjgbggiaa", sum := "9ca189ff4225551ca9db854c1026c10e1e71402f093e2622bb02d1bcf133811e", func := "curfew/curfewlaw12.WheelNobody", spec := "wheelNobody", unfollowed := true, recurses := true, apart := false, narrowed := true }
def WheelNobodyUptoSaid : Prop := wheelNobodyUptoRow.holds Try.pinned (OpenSpec.upto wheelNobodySpec)

/-- 'curfewlaw13.DeadlineOnce', WHERE WHAT IT READS IS OF BULK AT MOST 1048576: true; the input reads as it did. -/
def deadlineOnceUptoRow : OpenClaim := { program := "ytblipnjjgbggiaa", sum := "9ca189ff4225551ca9db854c1026c10e1e71402f093e2622bb02d1bcf133811e", func := "curfew/curfewlaw13.DeadlineOnce", spec := "deadlineOnce", unfollowed := true, recurses := true, apart := false, narrowed := true }
def DeadlineOnceUptoSaid : Prop := deadlineOnceUptoRow.holds Try.pinned (OpenSpec.upto deadlineOnceSpec)

/-- 'curfewlaw13.DeadlinePlays', WHERE WHAT IT READS IS OF BULK AT MOST 1048576: true; the input reads as it did. -/
def deadlinePlaysUptoRow : OpenClaim := { program := "ytblipnjjgbggiaa", sum := "9ca189ff4225551ca9db854c1026c10e1e71402f093e2622bb02d1bcf133811e", func := "curfew/curfewlaw13.DeadlinePlays", spec := "deadlinePlays", unfollowed := true, recurses := true, apart := false, narrowed := true }
def DeadlinePlaysUptoSaid : Prop := deadlinePlaysUptoRow.holds Try.pinned (OpenSpec.upto deadlinePlaysSpec)

/-- 'curfewlaw13.DeadlineApart', WHERE WHAT IT READS IS OF BULK AT MOST 1048576: true; the input reads as it did. -/
def deadlineApartUptoRow : OpenClaim := { program := "ytblipnjjgbggiaa", sum := "9ca189ff4225551ca9db854c1026c10e1e71402f093e2622bb02d1bcf133811e", func := "curfew/curfewlaw13.DeadlineApart", spec := "deadlineApart", unfollowed := true, recurses := true, apart := false, narrowed := true }
def DeadlineApartUptoSaid : Prop := deadlineApartUptoRow.holds Try.pinned (OpenSpec.upto deadlineApartSpec)

/-- 'curfewlaw13.DeadlineNobody', WHERE WHAT IT READS IS OF BULK AT MOST 1048576: true; the input reads as it did. -/
def deadlineNobodyUptoRow : OpenClaim := { program := "ytblipnjjgbggiaa", sum := "9ca189ff4225551ca9db854c1026c10e1e71402f093e2622bb02d1bcf133811e", func := "curfew/curfewlaw13.DeadlineNobody", spec := "deadlineNobody", unfollowed := true, recurses := true, apart := false, narrowed := true }
def DeadlineNobodyUptoSaid : Prop := deadlineNobodyUptoRow.holds Try.pinned (OpenSpec.upto deadlineNobodySpec)

/-- 'curfewlaw13.DeadlineBytes', WHERE WHAT IT READS IS OF BULK AT MOST 1048576: true; the input reads as it did. -/
def deadlineBytesUptoRow : OpenClaim := { program := "ytblipnjjgbggiaa", sum := "9ca189ff4225551ca9db854c1026c10e1e71402f093e2622bb02d1bcf133811e", func := "curfew/curfewlaw13.DeadlineBytes", spec := "deadlineBytes", unfollowed := true, recurses := true, apart := false, narrowed := true }
def DeadlineBytesUptoSaid : Prop := deadlineBytesUptoRow.holds Try.pinned (OpenSpec.upto deadlineBytesSpec)

end Rows
end Go.Proofs.Ytblipnjjgbggiaa
