/- Arrays of five ints: to build, to compare. Conditions: none. -/
import Derived.Test.YtblipnjjgbggiaaWhC
namespace Go.Proofs.Ytblipnjjgbggiaa
open Go Go.RowKit
abbrev A5 (l : List Int) : Value := .agg (l.map fun n : Int => Value.int .i64 n).toArray
theorem bld38 (w : World) : (Instr.build 38 #[]).run Try.prog w = .ok (A5 [0, 0, 0, 0, 0]) w := by kernel_rfl
theorem bld38_0 (x0 : Int) (w : World) : (Instr.build 38 #[(0, .int .i64 x0)]).run Try.prog w = .ok (A5 [x0, 0, 0, 0, 0]) w := by kernel_rfl
theorem bld38_0_1 (x0 x1 : Int) (w : World) : (Instr.build 38 #[(0, .int .i64 x0), (1, .int .i64 x1)]).run Try.prog w = .ok (A5 [x0, x1, 0, 0, 0]) w := by kernel_rfl
theorem run_eqAd (d : Nat) (a0 a1 a2 a3 a4 b0 b1 b2 b3 b4 : Int) (w : World) : (Op.equalIn (d + 2) 38 (A5 [a0, a1, a2, a3, a4]) (A5 [b0, b1, b2, b3, b4])).run Try.prog w = .ok (decide ([a0, a1, a2, a3, a4] = [b0, b1, b2, b3, b4])) w := by
  have hi : ∀ a b, (Op.equalIn (d + 1) 3 (.int .i64 a) (.int .i64 b)).run Try.prog w = .ok (a == b) w := fun a b => run_equalIn_int w _ 3 .i64 .i64 a b Try.underlying3
  rw [Op.equalIn]
  simp only [Sem.run_bind, run_underlying Try.underlying38, Result.andThen_ok]
  generalize hE : Op.equalIn (d + 1) 3 = E at hi ⊢
  have hia : ∀ w, Sem.run Try.prog (isAgg 3) w = .ok false w := Try.isAgg3
  simp only [part, Try.sizeOf3, Sem.run_bind, Result.andThen_ok, Std.Legacy.Range.forIn_eq_forIn_range', Std.Legacy.Range.size, Nat.sub_zero, Nat.add_sub_cancel, Nat.div_one, show (5 + 1 - 1 : Nat) = 5 from rfl, show List.range' 0 5 1 = [0, 1, 2, 3, 4] from rfl, List.forIn_cons, List.forIn_nil]
  by_cases h0 : a0 = b0 <;> by_cases h1 : a1 = b1 <;> by_cases h2 : a2 = b2 <;> by_cases h3 : a3 = b3 <;> by_cases h4 : a4 = b4 <;> simp [h0, h1, h2, h3, h4, hi, hia]
theorem run_eqA (a0 a1 a2 a3 a4 b0 b1 b2 b3 b4 : Int) (w : World) : (Op.equalIn 10000 38 (A5 [a0, a1, a2, a3, a4]) (A5 [b0, b1, b2, b3, b4])).run Try.prog w = .ok (decide ([a0, a1, a2, a3, a4] = [b0, b1, b2, b3, b4])) w := run_eqAd 9998 a0 a1 a2 a3 a4 b0 b1 b2 b3 b4 w
theorem five {s : List Int} (h : s.length = 5) : ∃ a0 a1 a2 a3 a4, s = [a0, a1, a2, a3, a4] := by
  match s, h with
  | [a0, a1, a2, a3, a4], _ => exact ⟨a0, a1, a2, a3, a4, rfl⟩
theorem ov_eqlA5 {l : List (Nat × Value)} {w : World} {o : Oper} {x y : Operand} {u : TypeId} {s t : List Int} (ho : o.op = .binOp .eql 38 x y u) (hx : ev l x = some (A5 s)) (hy : ev l y = some (A5 t)) (hs : s.length = 5) (ht : t.length = 5) : OpV Try.prog l w o (.bool (decide (s = t))) := by
  intro ρ k
  obtain ⟨a0, a1, a2, a3, a4, rfl⟩ := five hs
  obtain ⟨b0, b1, b2, b3, b4, rfl⟩ := five ht
  have h := run_eqA a0 a1 a2 a3 a4 b0 b1 b2 b3 b4 w
  simp only [execOp, ho, k _ _ hx, k _ _ hy]
  unfold A5 at h ⊢
  simp only [run_eqGuard_agg _ _ _ _ _ _ _ Try.eqGuardType38, Sem.run_bind, Result.andThen_ok, run_eql_struct, h, Sem.run_pure]
theorem ov_neqA5 {l : List (Nat × Value)} {w : World} {o : Oper} {x y : Operand} {u : TypeId} {s t : List Int} (ho : o.op = .binOp .neq 38 x y u) (hx : ev l x = some (A5 s)) (hy : ev l y = some (A5 t)) (hs : s.length = 5) (ht : t.length = 5) : OpV Try.prog l w o (.bool (decide (¬ s = t))) := by
  intro ρ k
  obtain ⟨a0, a1, a2, a3, a4, rfl⟩ := five hs
  obtain ⟨b0, b1, b2, b3, b4, rfl⟩ := five ht
  have h := run_eqA a0 a1 a2 a3 a4 b0 b1 b2 b3 b4 w
  simp only [execOp, ho, k _ _ hx, k _ _ hy]
  unfold A5 at h ⊢
  simp only [run_eqGuard_agg _ _ _ _ _ _ _ Try.eqGuardType38, Sem.run_bind, Result.andThen_ok, run_neq_struct, h, Sem.run_pure]
  simp
end Go.Proofs.Ytblipnjjgbggiaa
