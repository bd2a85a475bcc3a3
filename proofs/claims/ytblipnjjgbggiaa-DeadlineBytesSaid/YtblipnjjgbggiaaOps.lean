/- What single operations come to, over frames that are lists of known slots. Conditions: none. -/
import Derived.Test.YtblipnjjgbggiaaEng
namespace Go.Proofs.Ytblipnjjgbggiaa
open Go Go.RowKit
set_option linter.unusedVariables false
set_option linter.unusedSectionVars false
set_option linter.unusedSimpArgs false
section
variable {P : Program} {l : List (Nat × Value)} {w : World} {o : Oper}

theorem ov_move {x : Operand} {v : Value} (ho : o.op = .move x) (hx : ev l x = some v) : OpV P l w o v := by
  intro ρ k; simp [execOp, ho, k _ _ hx]
theorem ov_assign {x : Operand} {v : Value} (ho : o.op = .assign x) (hx : ev l x = some v) : OpV P l w o v := by
  intro ρ k; simp [execOp, ho, k _ _ hx]

theorem ov_eq {v v' : Value} (h : OpV P l w o v) (e : v = v') : OpV P l w o v' := e ▸ h

/-! ### whole numbers -/
section
variable {t u : TypeId} {x y : Operand} {kd : IntKind} {a b c : Int}
theorem ov_add (ho : o.op = .binOp .add t x y u) (hx : ev l x = some (.int kd a)) (hy : ev l y = some (.int kd b)) (hw : kd.wrap (a + b) = c) : OpV P l w o (.int kd c) := by
  intro ρ k; simp [execOp, ho, k _ _ hx, k _ _ hy, eqGuard, binOp, Op.intArith, hw]
theorem ov_sub (ho : o.op = .binOp .sub t x y u) (hx : ev l x = some (.int kd a)) (hy : ev l y = some (.int kd b)) (hw : kd.wrap (a - b) = c) : OpV P l w o (.int kd c) := by
  intro ρ k; simp [execOp, ho, k _ _ hx, k _ _ hy, eqGuard, binOp, Op.intArith, hw]
theorem ov_mul (ho : o.op = .binOp .mul t x y u) (hx : ev l x = some (.int kd a)) (hy : ev l y = some (.int kd b)) (hw : kd.wrap (a * b) = c) : OpV P l w o (.int kd c) := by
  intro ρ k; simp [execOp, ho, k _ _ hx, k _ _ hy, eqGuard, binOp, Op.intArith, hw]
theorem ov_quo (ho : o.op = .binOp .quo t x y u) (hx : ev l x = some (.int kd a)) (hy : ev l y = some (.int kd b)) (hb : b ≠ 0) (hw : kd.wrap (a.tdiv b) = c) : OpV P l w o (.int kd c) := by
  intro ρ k; simp [execOp, ho, k _ _ hx, k _ _ hy, eqGuard, binOp, Op.intDiv, hb, hw]
theorem ov_rem (ho : o.op = .binOp .rem t x y u) (hx : ev l x = some (.int kd a)) (hy : ev l y = some (.int kd b)) (hb : b ≠ 0) (hw : a.tmod b = c) : OpV P l w o (.int kd c) := by
  intro ρ k; simp [execOp, ho, k _ _ hx, k _ _ hy, eqGuard, binOp, Op.intDiv, hb, hw]
theorem ov_lss (ho : o.op = .binOp .lss t x y u) (hx : ev l x = some (.int kd a)) (hy : ev l y = some (.int kd b)) : OpV P l w o (.bool (decide (a < b))) := by
  intro ρ k; simp [execOp, ho, k _ _ hx, k _ _ hy, eqGuard, binOp, Op.intCmp]
theorem ov_leq (ho : o.op = .binOp .leq t x y u) (hx : ev l x = some (.int kd a)) (hy : ev l y = some (.int kd b)) : OpV P l w o (.bool (decide (a ≤ b))) := by
  intro ρ k; simp [execOp, ho, k _ _ hx, k _ _ hy, eqGuard, binOp, Op.intCmp]
theorem ov_gtr (ho : o.op = .binOp .gtr t x y u) (hx : ev l x = some (.int kd a)) (hy : ev l y = some (.int kd b)) : OpV P l w o (.bool (decide (b < a))) := by
  intro ρ k; simp [execOp, ho, k _ _ hx, k _ _ hy, eqGuard, binOp, Op.intCmp]
theorem ov_geq (ho : o.op = .binOp .geq t x y u) (hx : ev l x = some (.int kd a)) (hy : ev l y = some (.int kd b)) : OpV P l w o (.bool (decide (b ≤ a))) := by
  intro ρ k; simp [execOp, ho, k _ _ hx, k _ _ hy, eqGuard, binOp, Op.intCmp]
theorem beq_decide (a b : Int) : (a == b) = decide (a = b) := by by_cases h : a = b <;> simp [h]
theorem bne_decide (a b : Int) : (a != b) = decide (a ≠ b) := by by_cases h : a = b <;> simp [h]
theorem ov_eql (ho : o.op = .binOp .eql t x y u) (hx : ev l x = some (.int kd a)) (hy : ev l y = some (.int kd b)) : OpV P l w o (.bool (decide (a = b))) := by
  intro ρ k; simp [execOp, ho, k _ _ hx, k _ _ hy, eqGuard, binOp, Op.intCmp, beq_decide]
theorem ov_neq (ho : o.op = .binOp .neq t x y u) (hx : ev l x = some (.int kd a)) (hy : ev l y = some (.int kd b)) : OpV P l w o (.bool (decide (a ≠ b))) := by
  intro ρ k; simp [execOp, ho, k _ _ hx, k _ _ hy, eqGuard, binOp, Op.intCmp, bne_decide]
theorem ov_shl {ky : IntKind} (ho : o.op = .binOp .shl t x y u) (hx : ev l x = some (.int kd a)) (hy : ev l y = some (.int ky b)) (hb : 0 ≤ b) (hw : kd.wrap (a * 2 ^ min b.toNat kd.bits) = c) : OpV P l w o (.int kd c) := by
  intro ρ k; simp [execOp, ho, k _ _ hx, k _ _ hy, eqGuard, binOp, Op.shift, hw, Int.not_lt.mpr hb]
theorem ov_shr {ky : IntKind} (ho : o.op = .binOp .shr t x y u) (hx : ev l x = some (.int kd a)) (hy : ev l y = some (.int ky b)) (hb : 0 ≤ b) (hw : a.fdiv (2 ^ min b.toNat kd.bits) = c) : OpV P l w o (.int kd c) := by
  intro ρ k; simp [execOp, ho, k _ _ hx, k _ _ hy, eqGuard, binOp, Op.shift, hw, Int.not_lt.mpr hb]
theorem ov_and (ho : o.op = .binOp .and t x y u) (hx : ev l x = some (.int kd a)) (hy : ev l y = some (.int kd b)) (hw : kd.wrap (BitVec.ofInt kd.bits a &&& BitVec.ofInt kd.bits b).toNat = c) : OpV P l w o (.int kd c) := by
  intro ρ k; simp only [execOp, ho, k _ _ hx, k _ _ hy, eqGuard, binOp, Op.intBits]; rw [hw]; simp
theorem ov_or (ho : o.op = .binOp .or t x y u) (hx : ev l x = some (.int kd a)) (hy : ev l y = some (.int kd b)) (hw : kd.wrap (BitVec.ofInt kd.bits a ||| BitVec.ofInt kd.bits b).toNat = c) : OpV P l w o (.int kd c) := by
  intro ρ k; simp only [execOp, ho, k _ _ hx, k _ _ hy, eqGuard, binOp, Op.intBits]; rw [hw]; simp
theorem ov_xor (ho : o.op = .binOp .xor t x y u) (hx : ev l x = some (.int kd a)) (hy : ev l y = some (.int kd b)) (hw : kd.wrap (BitVec.ofInt kd.bits a ^^^ BitVec.ofInt kd.bits b).toNat = c) : OpV P l w o (.int kd c) := by
  intro ρ k; simp only [execOp, ho, k _ _ hx, k _ _ hy, eqGuard, binOp, Op.intBits]; rw [hw]; simp
theorem ov_andNot (ho : o.op = .binOp .andNot t x y u) (hx : ev l x = some (.int kd a)) (hy : ev l y = some (.int kd b)) (hw : kd.wrap (BitVec.ofInt kd.bits a &&& ~~~ BitVec.ofInt kd.bits b).toNat = c) : OpV P l w o (.int kd c) := by
  intro ρ k; simp only [execOp, ho, k _ _ hx, k _ _ hy, eqGuard, binOp, Op.intBits]; rw [hw]; simp
theorem ov_neg (ho : o.op = .unOp .neg t x) (hx : ev l x = some (.int kd a)) (hw : kd.wrap (0 - a) = c) : OpV P l w o (.int kd c) := by
  intro ρ k; simp only [execOp, ho, k _ _ hx, Op.unary, Op.intArith]; simp only [hw]; rfl
theorem ov_conv {ks : IntKind} {s t : TypeId} {d : TypeDesc} (ho : o.op = .convert s t x) (hs : P.underlying s = some d) (ht : P.underlying t = some (.int kd)) (hx : ev l x = some (.int ks a)) (hw : kd.wrap a = c) : OpV P l w o (.int kd c) := by
  intro ρ k; simp [execOp, ho, k _ _ hx, convert, run_underlying hs, run_underlying ht, Conv.intToInt, hw]
theorem ov_min {ats : Array TypeId} (ho : o.op = .call { callee := .builtin .min, args := #[x, y], argTypes := ats }) (hx : ev l x = some (.int kd a)) (hy : ev l y = some (.int kd b)) : OpV P l w o (.int kd (min a b)) := by
  intro ρ k
  have : (if b < a then b else a) = min a b := by omega
  simp [execOp, ho, resolve, invoke, builtin, Builtin.min_, Builtin.min2, k _ _ hx, k _ _ hy, this]
theorem ov_max {ats : Array TypeId} (ho : o.op = .call { callee := .builtin .max, args := #[x, y], argTypes := ats }) (hx : ev l x = some (.int kd a)) (hy : ev l y = some (.int kd b)) : OpV P l w o (.int kd (max a b)) := by
  intro ρ k
  have : (if b > a then b else a) = max a b := by omega
  simp [execOp, ho, resolve, invoke, builtin, Builtin.max_, Builtin.max2, k _ _ hx, k _ _ hy, this]
end

/-! wraps -/
theorem w64 {n : Int} (h : -9223372036854775808 ≤ n ∧ n ≤ 9223372036854775807) : IntKind.i64.wrap n = n := IntWalk.i64_in n h
theorem wu64 {n : Int} (h : 0 ≤ n ∧ n ≤ 18446744073709551615) : IntKind.u64.wrap n = n := IntWalk.u64_in n h
theorem wu8 {n : Int} (h : 0 ≤ n ∧ n ≤ 255) : IntKind.u8.wrap n = n := IntWalk.u8_in n h

/-! equality at a type -/
theorem equalIn_bool (d : Nat) {t : TypeId} (ht : P.underlying t = some .bool) (b c : Bool) : (Op.equalIn (d + 1) t (.bool b) (.bool c)).run P w = .ok (b == c) w := by
  simp [Op.equalIn, run_underlying ht]
theorem equal_bool {t : TypeId} (ht : P.underlying t = some .bool) (b c : Bool) : (Op.equal t (.bool b) (.bool c)).run P w = .ok (b == c) w := equalIn_bool 9999 ht b c
theorem equalIn_ptr (d : Nat) {t e : TypeId} (ht : P.underlying t = some (.pointer e)) (A : Option Addr) : (Op.equalIn (d + 1) t (.pointer A) (.pointer none)).run P w = .ok A.isNone w := by
  cases A <;> simp [Op.equalIn, run_underlying ht]
theorem equal_ptr {t e : TypeId} (ht : P.underlying t = some (.pointer e)) (A : Option Addr) : (Op.equal t (.pointer A) (.pointer none)).run P w = .ok A.isNone w := equalIn_ptr 9999 ht A
theorem equalIn_sl (d : Nat) {t e : TypeId} (ht : P.underlying t = some (.slice e)) (A : Option Addr) (n c : Nat) : (Op.equalIn (d + 1) t (.slice A n c) (.slice none 0 0)).run P w = .ok A.isNone w := by
  cases A <;> simp [Op.equalIn, run_underlying ht]
theorem equal_sl {t e : TypeId} (ht : P.underlying t = some (.slice e)) (A : Option Addr) (n c : Nat) : (Op.equal t (.slice A n c) (.slice none 0 0)).run P w = .ok A.isNone w := equalIn_sl 9999 ht A n c
theorem equalIn_map (d : Nat) {t k e : TypeId} (ht : P.underlying t = some (.map k e)) (A : Option Nat) : (Op.equalIn (d + 1) t (.map A) (.map none)).run P w = .ok A.isNone w := by
  cases A <;> simp [Op.equalIn, run_underlying ht]
theorem equal_map {t k e : TypeId} (ht : P.underlying t = some (.map k e)) (A : Option Nat) : (Op.equal t (.map A) (.map none)).run P w = .ok A.isNone w := equalIn_map 9999 ht A
theorem equalIn_fn (d : Nat) {t : TypeId} {ps rs : Array TypeId} {vr : Bool} (ht : P.underlying t = some (.func ps rs vr)) (f : Fn) (a b : Array Value) : (Op.equalIn (d + 1) t (.func f a b) .nilFunc).run P w = .ok false w := by
  simp [Op.equalIn, run_underlying ht]
theorem equal_fn {t : TypeId} {ps rs : Array TypeId} {vr : Bool} (ht : P.underlying t = some (.func ps rs vr)) (f : Fn) (a b : Array Value) : (Op.equal t (.func f a b) .nilFunc).run P w = .ok false w := equalIn_fn 9999 ht f a b
theorem equalIn_fnn (d : Nat) {t : TypeId} {ps rs : Array TypeId} {vr : Bool} (ht : P.underlying t = some (.func ps rs vr)) : (Op.equalIn (d + 1) t .nilFunc .nilFunc).run P w = .ok true w := by
  simp [Op.equalIn, run_underlying ht]
theorem equal_fnn {t : TypeId} {ps rs : Array TypeId} {vr : Bool} (ht : P.underlying t = some (.func ps rs vr)) : (Op.equal t .nilFunc .nilFunc).run P w = .ok true w := equalIn_fnn 9999 ht

/-! ### bools -/
section
variable {t u : TypeId} {x y z : Operand} {p q : Prop} [Decidable p] [Decidable q] {b b' c : Bool}
theorem ov_not (ho : o.op = .unOp .not t x) (hx : ev l x = some (.bool (decide p))) : OpV P l w o (.bool (decide ¬ p)) := by
  intro ρ k; simp [execOp, ho, k _ _ hx, Op.unary]
theorem ov_notb (ho : o.op = .unOp .not t x) (hx : ev l x = some (.bool b)) : OpV P l w o (.bool (!b)) := by
  intro ρ k; simp [execOp, ho, k _ _ hx, Op.unary]
theorem ov_pick {va vb : Value} (ho : o.op = .pick x y z) (hx : ev l x = some (.bool b)) (hb : b = true) (hy : ev l y = some va) : OpV P l w o va := by
  intro ρ k; simp [execOp, ho, k _ _ hx, k _ _ hy, asBool, hb]
theorem ov_pick_f {va vb : Value} (ho : o.op = .pick x y z) (hx : ev l x = some (.bool b)) (hb : b = false) (hz : ev l z = some vb) : OpV P l w o vb := by
  intro ρ k; simp [execOp, ho, k _ _ hx, k _ _ hz, asBool, hb]
theorem ov_pick2 (ho : o.op = .pick x y z) (hx : ev l x = some (.bool c)) (hy : ev l y = some (.bool b)) (hz : ev l z = some (.bool b')) : OpV P l w o (.bool (if c then b else b')) := by
  intro ρ k; cases c <;> simp [execOp, ho, k _ _ hx, k _ _ hy, k _ _ hz, asBool]
theorem ov_eqlb (ho : o.op = .binOp .eql t x y u) (ht : P.underlying t = some .bool) (hx : ev l x = some (.bool b)) (hy : ev l y = some (.bool c)) : OpV P l w o (.bool (b == c)) := by
  intro ρ k; simp [execOp, ho, k _ _ hx, k _ _ hy, eqGuard, binOp, equal_bool (w := w) ht]
theorem ov_neqb (ho : o.op = .binOp .neq t x y u) (ht : P.underlying t = some .bool) (hx : ev l x = some (.bool b)) (hy : ev l y = some (.bool c)) : OpV P l w o (.bool (!(b == c))) := by
  intro ρ k; simp [execOp, ho, k _ _ hx, k _ _ hy, eqGuard, binOp, equal_bool (w := w) ht]
end

/-! ### pointers, slices, nil -/
section
variable {t u e : TypeId} {x y : Operand} {A : Option Addr} {n c : Nat} {a : Addr}
theorem ov_eql_nil (ho : o.op = .binOp .eql t x y u) (ht : P.underlying t = some (.pointer e)) (hx : ev l x = some (.pointer A)) (hy : ev l y = some (.pointer none)) : OpV P l w o (.bool A.isNone) := by
  intro ρ k; cases A <;> simp [execOp, ho, k _ _ hx, k _ _ hy, eqGuard, binOp, equal_ptr (w := w) ht]
theorem ov_neq_nil (ho : o.op = .binOp .neq t x y u) (ht : P.underlying t = some (.pointer e)) (hx : ev l x = some (.pointer A)) (hy : ev l y = some (.pointer none)) : OpV P l w o (.bool A.isSome) := by
  intro ρ k; cases A <;> simp [execOp, ho, k _ _ hx, k _ _ hy, eqGuard, binOp, equal_ptr (w := w) ht]
theorem ov_seql_nil (ho : o.op = .binOp .eql t x y u) (ht : P.underlying t = some (.slice e)) (hx : ev l x = some (.slice A n c)) (hy : ev l y = some (.slice none 0 0)) : OpV P l w o (.bool A.isNone) := by
  intro ρ k; cases A <;> simp [execOp, ho, k _ _ hx, k _ _ hy, eqGuard, binOp, equal_sl (w := w) ht]
theorem ov_sneq_nil (ho : o.op = .binOp .neq t x y u) (ht : P.underlying t = some (.slice e)) (hx : ev l x = some (.slice A n c)) (hy : ev l y = some (.slice none 0 0)) : OpV P l w o (.bool A.isSome) := by
  intro ρ k; cases A <;> simp [execOp, ho, k _ _ hx, k _ _ hy, eqGuard, binOp, equal_sl (w := w) ht]
theorem ov_meql_nil {M : Option Nat} {kt : TypeId} (ho : o.op = .binOp .eql t x y u) (ht : P.underlying t = some (.map kt e)) (hx : ev l x = some (.map M)) (hy : ev l y = some (.map none)) : OpV P l w o (.bool M.isNone) := by
  intro ρ k; cases M <;> simp [execOp, ho, k _ _ hx, k _ _ hy, eqGuard, binOp, equal_map (w := w) ht]
theorem ov_feql_nil {ps rs : Array TypeId} {vr : Bool} {f : Fn} {fa fb : Array Value} (ho : o.op = .binOp .eql t x y u) (ht : P.underlying t = some (.func ps rs vr)) (hx : ev l x = some (.func f fa fb)) (hy : ev l y = some .nilFunc) : OpV P l w o (.bool false) := by
  intro ρ k; simp [execOp, ho, k _ _ hx, k _ _ hy, eqGuard, binOp, equal_fn (w := w) ht]
theorem ov_feqln_nil {ps rs : Array TypeId} {vr : Bool} (ho : o.op = .binOp .eql t x y u) (ht : P.underlying t = some (.func ps rs vr)) (hx : ev l x = some .nilFunc) (hy : ev l y = some .nilFunc) : OpV P l w o (.bool true) := by
  intro ρ k; simp [execOp, ho, k _ _ hx, k _ _ hy, eqGuard, binOp, equal_fnn (w := w) ht]
theorem ov_nilCheck (ho : o.op = .nilCheck x) (hx : ev l x = some (.pointer (some a))) : OpV P l w o (.pointer (some a)) := by
  intro ρ k; simp [execOp, ho, k _ _ hx]
theorem ov_len {ats : Array TypeId} (ho : o.op = .call { callee := .builtin .len, args := #[x], argTypes := ats }) (hat : ats = #[t]) (ht : P.underlying t = some (.slice e)) (hx : ev l x = some (.slice A n c)) : OpV P l w o (.int .i64 n) := by
  subst hat
  intro ρ k; simp [execOp, ho, resolve, invoke, builtin, Builtin.len_, k _ _ hx, run_underlying ht, goInt]
theorem ov_lenM {ats : Array TypeId} {key : TypeId} {r : Nat} {es : Array MapEntry} {ck : Nat} (ho : o.op = .call { callee := .builtin .len, args := #[x], argTypes := ats }) (hat : ats = #[t]) (ht : P.underlying t = some (.map key e)) (hx : ev l x = some (.map (some r))) (hr : w.heap[r]? = some (.map es ck)) : OpV P l w o (.int .i64 es.size) := by
  subst hat
  intro ρ k; simp [execOp, ho, resolve, invoke, builtin, Builtin.len_, k _ _ hx, run_underlying ht, goInt, getObj, Sem.run, hr]
theorem ov_extract {vs : Array Value} {v : Value} {ix : Nat} (ho : o.op = .extract x ix) (hx : ev l x = some (.tuple vs)) (hv : vs[ix]? = some v) : OpV P l w o v := by
  intro ρ k; simp [execOp, ho, k _ _ hx, Instr.extract, hv]
theorem ov_makeFunc {f : Fn} (ho : o.op = .makeFunc f #[] #[]) : OpV P l w o (.func f #[] #[]) := by
  intro ρ k; simp [execOp, ho, Instr.makeFunc]
theorem ov_makeFunc1 {f : Fn} {v : Value} (ho : o.op = .makeFunc f #[] #[x]) (hx : ev l x = some v) : OpV P l w o (.func f #[] #[v]) := by
  intro ρ k; simp [execOp, ho, Instr.makeFunc, k _ _ hx]
theorem ov_makeFunc2 {f : Fn} {v v' : Value} (ho : o.op = .makeFunc f #[] #[x, y]) (hx : ev l x = some v) (hy : ev l y = some v') : OpV P l w o (.func f #[] #[v, v']) := by
  intro ρ k; simp [execOp, ho, Instr.makeFunc, k _ _ hx, k _ _ hy]
theorem ov_makeFunc3 {f : Fn} {z : Operand} {v v' v'' : Value} (ho : o.op = .makeFunc f #[] #[x, y, z]) (hx : ev l x = some v) (hy : ev l y = some v') (hz : ev l z = some v'') : OpV P l w o (.func f #[] #[v, v', v'']) := by
  intro ρ k; simp [execOp, ho, Instr.makeFunc, k _ _ hx, k _ _ hy, k _ _ hz]
end

/-! ### addresses -/
section
variable {s t e : TypeId} {x y : Operand} {A : Option Addr} {n c : Nat} {a : Addr} {fs : Array Field} {f : Field} {ix : Nat} {kd : IntKind} {i : Int} {sz : Nat}
/-- The address that a field's number gives. -/
theorem ov_fieldAddr (ho : o.op = .fieldAddr s x ix) (hs : P.underlying s = some (.struct fs)) (hf : fs[ix]? = some f) (hz : (sizeOf f.type).run P w = .ok sz w) (hsz : sz ≠ 0) (hx : ev l x = some (.pointer (some a))) : OpV P l w o (.pointer (some (a.add f.offset))) := by
  intro ρ k
  simp [execOp, ho, k _ _ hx, Instr.fieldAt, run_underlying hs, hf, Instr.sureAddr, fieldPlace, hz, hsz]
def adr (A : Option Addr) : Addr := A.getD ⟨0, 0, none⟩
theorem ov_indexAddr (ho : o.op = .indexAddr t x y) (ht : P.underlying t = some (.slice e)) (hz : (sizeOf e).run P w = .ok sz w) (hx : ev l x = some (.slice A n c)) (hy : ev l y = some (.int kd i)) (h0 : 0 ≤ i) (h1 : i < n) (hA : A.isSome = true) :
    OpV P l w o (.pointer (some ((adr A).add (i.toNat * sz)))) := by
  intro ρ k
  obtain ⟨ad, rfl⟩ := Option.isSome_iff_exists.mp hA
  simp [execOp, ho, k _ _ hx, k _ _ hy, Instr.indexAt, asIntOf, run_underlying ht, hz, h0, h1, adr]
theorem ov_indexAddrA {m : Nat} (ho : o.op = .indexAddr t x y) (ht : P.underlying t = some (.array m e)) (hz : (sizeOf e).run P w = .ok sz w) (hx : ev l x = some (.pointer (some a))) (hy : ev l y = some (.int kd i)) (h0 : 0 ≤ i) (h1 : i < m) :
    OpV P l w o (.pointer (some (a.add (i.toNat * sz)))) := by
  intro ρ k
  simp [execOp, ho, k _ _ hx, k _ _ hy, Instr.indexAt, asIntOf, run_underlying ht, hz, h0, h1, Instr.sureAddr]
theorem run_load_cell {v : Value} {m : Mode} (h : w.cell? a = some v) : (Go.load a m).run P w = .ok v w := by
  simp [Go.load, Sem.run, h]
theorem run_loadVar1 {v : Value} (ht : (isAgg t).run P w = .ok false w) (h : w.cell? a = some v) : (loadVar t a).run P w = .ok v w := by
  simp [loadVar, ht, h]
theorem run_loadVarN {cs : List Value} (ht : (isAgg t).run P w = .ok true w) (hz : (sizeOf t).run P w = .ok cs.length w) (h : ∀ j v, cs[j]? = some v → w.cell? (a.add j) = some v) : (loadVar t a).run P w = .ok (.agg cs.toArray) w := by
  simp [loadVar, ht, hz, run_loadCells_list (P := P) (w := w) a cs h]
theorem ov_load1 {v : Value} (ho : o.op = .load t x) (ht : (isAgg t).run P w = .ok false w) (hx : ev l x = some (.pointer (some a))) (h : w.cell? a = some v) : OpV P l w o v := by
  intro ρ k; simp [execOp, ho, k _ _ hx, Instr.loadAt, Instr.sureAddr, run_loadVar1 (P := P) ht h]
theorem ov_loadN {cs : List Value} (ho : o.op = .load t x) (ht : (isAgg t).run P w = .ok true w) (hz : (sizeOf t).run P w = .ok cs.length w) (hx : ev l x = some (.pointer (some a))) (h : ∀ j v, cs[j]? = some v → w.cell? (a.add j) = some v) : OpV P l w o (.agg cs.toArray) := by
  intro ρ k; simp [execOp, ho, k _ _ hx, Instr.loadAt, Instr.sureAddr, run_loadVarN (P := P) ht hz h]
theorem ov_indexS {t : TypeId} {x y : Operand} {s : ByteArray} {kd : IntKind} {i : Int} {b : UInt8} (ho : o.op = .index t x y) (ht : P.underlying t = some .string) (hx : ev l x = some (.string s)) (hy : ev l y = some (.int kd i)) (h0 : 0 ≤ i) (hb : s[i.toNat]? = some b) : OpV P l w o (.int .u8 b.toNat) := by
  intro ρ k
  simp [execOp, ho, k _ _ hx, k _ _ hy, Instr.index, asIntOf, run_underlying ht, h0, hb]
theorem ov_indexS_ {t : TypeId} {x y : Operand} {s : ByteArray} {kd : IntKind} {i : Int} (ho : o.op = .index t x y) (ht : P.underlying t = some .string) (hx : ev l x = some (.string s)) (hy : ev l y = some (.int kd i)) (h0 : 0 ≤ i) (h : i.toNat < s.size) : OpV P l w o (.int .u8 (s[i.toNat]'h).toNat) :=
  ov_indexS ho ht hx hy h0 (getElem?_pos s i.toNat h)
theorem ov_slice {e t : TypeId} {x lo hi : Operand} {A : Option Addr} {n c : Nat} {kd kd' : IntKind} {i j : Int} {sz : Nat} (ho : o.op = .slice t x (some lo) (some hi) none) (ht : P.underlying t = some (.slice e)) (hz : (sizeOf e).run P w = .ok sz w) (hx : ev l x = some (.slice A n c)) (hl : ev l lo = some (.int kd i)) (hh : ev l hi = some (.int kd' j)) (h0 : 0 ≤ i) (h1 : i ≤ j) (h2 : j ≤ c) :
    OpV P l w o (.slice (if c = i.toNat then A else A.map (·.add (i.toNat * sz))) (j.toNat - i.toNat) (c - i.toNat)) := by
  intro ρ k
  have hj : (0 : Int) ≤ j := by omega
  have h1' : i ≤ (j.toNat : Int) := by omega
  simp [execOp, ho, k _ _ hx, k _ _ hl, k _ _ hh, Instr.sliceAt, Instr.slice, run_underlying ht, hz, Instr.sliceBounds, Instr.sliceBound, asIntOf, h0, h2, hj, h1']
  intro hh'; omega
theorem ov_slice_lo {e t : TypeId} {x lo : Operand} {A : Option Addr} {n c : Nat} {kd : IntKind} {i : Int} {sz : Nat} (ho : o.op = .slice t x (some lo) none none) (ht : P.underlying t = some (.slice e)) (hz : (sizeOf e).run P w = .ok sz w) (hx : ev l x = some (.slice A n c)) (hl : ev l lo = some (.int kd i)) (h0 : 0 ≤ i) (h1 : i ≤ n) :
    OpV P l w o (.slice (if c = i.toNat then A else A.map (·.add (i.toNat * sz))) (n - i.toNat) (c - i.toNat)) := by
  intro ρ k
  simp [execOp, ho, k _ _ hx, k _ _ hl, Instr.sliceAt, Instr.slice, run_underlying ht, hz, Instr.sliceBounds, Instr.sliceBound, asIntOf, h0, h1]
theorem ov_slice_hi {e t : TypeId} {x hi : Operand} {A : Option Addr} {n c : Nat} {kd : IntKind} {j : Int} {sz : Nat} (ho : o.op = .slice t x none (some hi) none) (ht : P.underlying t = some (.slice e)) (hz : (sizeOf e).run P w = .ok sz w) (hx : ev l x = some (.slice A n c)) (hh : ev l hi = some (.int kd j)) (h0 : 0 ≤ j) (h1 : j ≤ c) :
    OpV P l w o (.slice (if c = 0 then A else A.map (·.add (0 * sz))) j.toNat c) := by
  intro ρ k
  simp [execOp, ho, k _ _ hx, k _ _ hh, Instr.sliceAt, Instr.slice, run_underlying ht, hz, Instr.sliceBounds, Instr.sliceBound, asIntOf, h0, h1]
end
end
end Go.Proofs.Ytblipnjjgbggiaa
