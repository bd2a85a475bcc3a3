/- Closed facts about the loaded program. Conditions: none. -/
import Derived.Test.YtblipnjjgbggiaaVec
import Derived.Test.YtblipnjjgbggiaaProg
namespace Go.Proofs.Ytblipnjjgbggiaa
open Go Go.RowKit
theorem mixed : Try.prog.follows .mixedOrders = true := by kernel_rfl
theorem info2 : Try.prog.info? 2 = some Try.t2 := by kernel_rfl
theorem info3 : Try.prog.info? 3 = some Try.t3 := by kernel_rfl
theorem info4 : Try.prog.info? 4 = some Try.t4 := by kernel_rfl
theorem info5 : Try.prog.info? 5 = some Try.t5 := by kernel_rfl
theorem info24 : Try.prog.info? 24 = some Try.t24 := by kernel_rfl
theorem info28 : Try.prog.info? 28 = some Try.t28 := by kernel_rfl
theorem info30 : Try.prog.info? 30 = some Try.t30 := by kernel_rfl
theorem info38 : Try.prog.info? 38 = some Try.t38 := by kernel_rfl
theorem info48 : Try.prog.info? 48 = some Try.t48 := by kernel_rfl
theorem info59 : Try.prog.info? 59 = some Try.t59 := by kernel_rfl
theorem info65 : Try.prog.info? 65 = some Try.t65 := by kernel_rfl
theorem info69 : Try.prog.info? 69 = some Try.t69 := by kernel_rfl
theorem info78 : Try.prog.info? 78 = some Try.t78 := by kernel_rfl
theorem info85 : Try.prog.info? 85 = some Try.t85 := by kernel_rfl
theorem info95 : Try.prog.info? 95 = some Try.t95 := by kernel_rfl
theorem info112 : Try.prog.info? 112 = some Try.t112 := by kernel_rfl
theorem info117 : Try.prog.info? 117 = some Try.t117 := by kernel_rfl
theorem info152 : Try.prog.info? 152 = some Try.t152 := by kernel_rfl
theorem info161 : Try.prog.info? 161 = some Try.t161 := by kernel_rfl
theorem bld30  (w : World) : (Instr.build 30 #[]).run Try.prog w = .ok (.agg #[.int .u64 0, .int .u64 0, .int .i64 0]) w := by kernel_rfl
theorem bld30_0_1_2 (x0 : Int) (x1 : Int) (x2 : Int) (w : World) : (Instr.build 30 #[(0, .int .u64 x0), (1, .int .u64 x1), (2, .int .i64 x2)]).run Try.prog w = .ok (.agg #[.int .u64 x0, .int .u64 x1, .int .i64 x2]) w := by kernel_rfl
theorem bld30_0_2 (x0 : Int) (x2 : Int) (w : World) : (Instr.build 30 #[(0, .int .u64 x0), (2, .int .i64 x2)]).run Try.prog w = .ok (.agg #[.int .u64 x0, .int .u64 0, .int .i64 x2]) w := by kernel_rfl
theorem bld48_0 (x0 : Int) (w : World) : (Instr.build 48 #[(0, .int .i64 x0)]).run Try.prog w = .ok (.agg #[.int .i64 x0, .slice none 0 0]) w := by kernel_rfl
theorem bld48_0_1 (x0 : Int) (x1 : Option Addr) (x1n x1c : Nat) (w : World) : (Instr.build 48 #[(0, .int .i64 x0), (1, .slice x1 x1n x1c)]).run Try.prog w = .ok (.agg #[.int .i64 x0, .slice x1 x1n x1c]) w := by kernel_rfl
theorem bld59  (w : World) : (Instr.build 59 #[]).run Try.prog w = .ok (.agg #[.int .u64 0, .int .u64 0, .int .i64 0, .int .i64 0]) w := by kernel_rfl
theorem bld59_0_1_2 (x0 : Int) (x1 : Int) (x2 : Int) (w : World) : (Instr.build 59 #[(0, .int .u64 x0), (1, .int .u64 x1), (2, .int .i64 x2)]).run Try.prog w = .ok (.agg #[.int .u64 x0, .int .u64 x1, .int .i64 x2, .int .i64 0]) w := by kernel_rfl
theorem bld65  (w : World) : (Instr.build 65 #[]).run Try.prog w = .ok (.agg #[.int .i64 0, .pointer none, .pointer none, .pointer none, .pointer none, .pointer none]) w := by kernel_rfl
theorem bld65_0_2 (x0 : Int) (x2 : Option Addr) (w : World) : (Instr.build 65 #[(0, .int .i64 x0), (2, .pointer x2)]).run Try.prog w = .ok (.agg #[.int .i64 x0, .pointer none, .pointer none, .pointer none, .pointer none, .pointer x2]) w := by kernel_rfl
theorem bld78  (w : World) : (Instr.build 78 #[]).run Try.prog w = .ok (.agg #[.int .i64 0, .int .u64 0, .slice none 0 0]) w := by kernel_rfl
theorem bld78_0_1_2 (x0 : Int) (x1 : Int) (x2 : Option Addr) (x2n x2c : Nat) (w : World) : (Instr.build 78 #[(0, .int .i64 x0), (1, .int .u64 x1), (2, .slice x2 x2n x2c)]).run Try.prog w = .ok (.agg #[.int .i64 x0, .int .u64 x1, .slice x2 x2n x2c]) w := by kernel_rfl
theorem bld85  (w : World) : (Instr.build 85 #[]).run Try.prog w = .ok (.agg #[.int .i64 0, .int .u64 0, .slice none 0 0]) w := by kernel_rfl
theorem bld85_0 (x0 : Int) (w : World) : (Instr.build 85 #[(0, .int .i64 x0)]).run Try.prog w = .ok (.agg #[.int .i64 x0, .int .u64 0, .slice none 0 0]) w := by kernel_rfl
theorem bld85_0_1 (x0 : Int) (x1 : Int) (w : World) : (Instr.build 85 #[(0, .int .i64 x0), (1, .int .u64 x1)]).run Try.prog w = .ok (.agg #[.int .i64 x0, .int .u64 x1, .slice none 0 0]) w := by kernel_rfl
theorem bld95  (w : World) : (Instr.build 95 #[]).run Try.prog w = .ok (.agg #[.pointer none, .int .u64 0]) w := by kernel_rfl
theorem bld95_0 (x0 : Option Addr) (w : World) : (Instr.build 95 #[(0, .pointer x0)]).run Try.prog w = .ok (.agg #[.pointer x0, .int .u64 0]) w := by kernel_rfl
theorem bld112_0 (x0 : Option Addr) (x0n x0c : Nat) (w : World) : (Instr.build 112 #[(0, .slice x0 x0n x0c)]).run Try.prog w = .ok (.agg #[.slice x0 x0n x0c, .bool false]) w := by kernel_rfl
theorem bld117_0 (x0 : Option Nat) (w : World) : (Instr.build 117 #[(0, .map x0)]).run Try.prog w = .ok (.agg #[.map x0]) w := by kernel_rfl
theorem bld152_0 (x0 : Option Addr) (x0n x0c : Nat) (w : World) : (Instr.build 152 #[(0, .slice x0 x0n x0c)]).run Try.prog w = .ok (.agg #[.slice x0 x0n x0c, .bool false]) w := by kernel_rfl
theorem bld161_2 (x2 : Option Nat) (w : World) : (Instr.build 161 #[(2, .map x2)]).run Try.prog w = .ok (.agg #[.slice none 0 0, .slice none 0 0, .slice none 0 0, .slice none 0 0, .slice none 0 0, .slice none 0 0, .slice none 0 0, .slice none 0 0, .slice none 0 0, .slice none 0 0, .slice none 0 0, .slice none 0 0, .slice none 0 0, .slice none 0 0, .slice none 0 0, .slice none 0 0, .slice none 0 0, .slice none 0 0, .slice none 0 0, .slice none 0 0, .slice none 0 0, .slice none 0 0, .slice none 0 0, .slice none 0 0, .slice none 0 0, .slice none 0 0, .slice none 0 0, .slice none 0 0, .slice none 0 0, .slice none 0 0, .slice none 0 0, .slice none 0 0, .slice none 0 0, .slice none 0 0, .slice none 0 0, .slice none 0 0, .slice none 0 0, .slice none 0 0, .slice none 0 0, .slice none 0 0, .slice none 0 0, .slice none 0 0, .slice none 0 0, .slice none 0 0, .slice none 0 0, .slice none 0 0, .slice none 0 0, .slice none 0 0, .slice none 0 0, .slice none 0 0, .slice none 0 0, .slice none 0 0, .slice none 0 0, .slice none 0 0, .slice none 0 0, .slice none 0 0, .slice none 0 0, .slice none 0 0, .slice none 0 0, .slice none 0 0, .slice none 0 0, .slice none 0 0, .slice none 0 0, .slice none 0 0, .int .u64 0, .map x2]) w := by kernel_rfl
end Go.Proofs.Ytblipnjjgbggiaa
