/- Closed facts about the loaded program. Conditions: none. -/
import Derived.Test.YtnmglobfdlnenaaVec
import Derived.Test.YtnmglobfdlnenaaProg
namespace Go.Proofs.Ytnmglobfdlnenaa
open Go Go.RowKit
theorem mixed : Try.prog.follows .mixedOrders = true := by kernel_rfl
theorem info3 : Try.prog.info? 3 = some Try.t3 := by kernel_rfl
theorem info4 : Try.prog.info? 4 = some Try.t4 := by kernel_rfl
theorem info5 : Try.prog.info? 5 = some Try.t5 := by kernel_rfl
theorem info34 : Try.prog.info? 34 = some Try.t34 := by kernel_rfl
theorem info40 : Try.prog.info? 40 = some Try.t40 := by kernel_rfl
theorem info58 : Try.prog.info? 58 = some Try.t58 := by kernel_rfl
theorem info77 : Try.prog.info? 77 = some Try.t77 := by kernel_rfl
theorem bld40  (w : World) : (Instr.build 40 #[]).run Try.prog w = .ok (.agg #[.int .i64 0, .int .i64 0]) w := by kernel_rfl
theorem bld40_0_1 (x0 : Int) (x1 : Int) (w : World) : (Instr.build 40 #[(0, .int .i64 x0), (1, .int .i64 x1)]).run Try.prog w = .ok (.agg #[.int .i64 x0, .int .i64 x1]) w := by kernel_rfl
theorem bld58  (w : World) : (Instr.build 58 #[]).run Try.prog w = .ok (.agg #[.slice none 0 0]) w := by kernel_rfl
theorem bld58_0 (x0 : Option Addr) (x0n x0c : Nat) (w : World) : (Instr.build 58 #[(0, .slice x0 x0n x0c)]).run Try.prog w = .ok (.agg #[.slice x0 x0n x0c]) w := by kernel_rfl
theorem bld77_0 (x0 : Option Addr) (x0n x0c : Nat) (w : World) : (Instr.build 77 #[(0, .slice x0 x0n x0c)]).run Try.prog w = .ok (.agg #[.slice x0 x0n x0c]) w := by kernel_rfl
end Go.Proofs.Ytnmglobfdlnenaa
