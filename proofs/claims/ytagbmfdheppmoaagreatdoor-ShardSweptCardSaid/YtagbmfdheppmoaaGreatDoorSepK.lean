import Derived.Test.YtagbmfdheppmoaaGreatDoorSepD
import Derived.Laws.Strings
import Derived.Laws.StructEq
import Derived.Sort.Walk0
/-
  Strings as lists of bytes: their order, their length, what is laid behind.
-/
namespace Go.Proofs.YtagbmfdheppmoaaGreatDoor.Sep
open Go.RowKit
set_option linter.unusedVariables false

def str (x : List UInt8) : ByteArray := ⟨x.toArray⟩
theorem str_list (x : List UInt8) : (str x).toList = x := ByteArray.toList_mk x
theorem str_size (x : List UInt8) : (str x).size = x.length := rfl
theorem str_of (b : ByteArray) : b = str b.data.toList := by cases b; rfl
theorem str_inj {x y : List UInt8} (h : str x = str y) : x = y := by rw [← str_list x, ← str_list y, h]
theorem str_append (x y : List UInt8) : str x ++ str y = str (x ++ y) := ByteArray.mk_append_mk x y
section
variable {P : Program} {ops : Array Oper} {a : Act} {w W : World} {L : List Chunk} {o : Oper} {N : Nat} {E : Env}
theorem eqb_str (x y : List UInt8) : (str x == str y) = decide (x = y) := by
  rw [beq_toListBytes, str_list, str_list]
  by_cases h : x = y <;> simp [h]
theorem run_slss {xt yt : TypeId} {x y : Operand} {p q : List UInt8} (ho : o.op = .binOp .lss xt x y yt) (hx : evalE E x = .string (str p)) (hy : evalE E y = .string (str q)) :
    ∀ w, (execOp (evalE E) o).run P w = .ok (.value (.bool (decide (p < q)))) w := by
  intro w; simp [execOp, ho, hx, hy, binOp, eqGuard, Op.stringOp, str_list, Go.Proofs.bytesLess_eq]
theorem le_or (p q : List UInt8) : (decide (p < q) || p == q) = decide (p ≤ q) := by
  by_cases h1 : p < q
  · have : p ≤ q := by grind
    simp [h1, this]
  · by_cases h2 : p = q
    · subst h2; simp [h1]
    · have : ¬ p ≤ q := by grind
      simp [h1, h2, this]
theorem run_sleq {xt yt : TypeId} {x y : Operand} {p q : List UInt8} (ho : o.op = .binOp .leq xt x y yt) (hx : evalE E x = .string (str p)) (hy : evalE E y = .string (str q)) :
    ∀ w, (execOp (evalE E) o).run P w = .ok (.value (.bool (decide (p ≤ q)))) w := by
  intro w; rw [← le_or]; simp [execOp, ho, hx, hy, binOp, eqGuard, Op.stringOp, str_list, Go.Proofs.bytesLess_eq]
theorem run_sgtr {xt yt : TypeId} {x y : Operand} {p q : List UInt8} (ho : o.op = .binOp .gtr xt x y yt) (hx : evalE E x = .string (str p)) (hy : evalE E y = .string (str q)) :
    ∀ w, (execOp (evalE E) o).run P w = .ok (.value (.bool (decide (q < p)))) w := by
  intro w
  have e : decide (q < p) = !(decide (p < q) || p == q) := by
    rw [le_or]
    by_cases h1 : q < p
    · have : ¬ p ≤ q := by grind
      simp [h1, this]
    · have : p ≤ q := by grind
      simp [h1, this]
  rw [e]; simp [execOp, ho, hx, hy, binOp, eqGuard, Op.stringOp, str_list, Go.Proofs.bytesLess_eq]
theorem run_sgeq {xt yt : TypeId} {x y : Operand} {p q : List UInt8} (ho : o.op = .binOp .geq xt x y yt) (hx : evalE E x = .string (str p)) (hy : evalE E y = .string (str q)) :
    ∀ w, (execOp (evalE E) o).run P w = .ok (.value (.bool (decide (q ≤ p)))) w := by
  intro w
  have e : decide (q ≤ p) = !decide (p < q) := by
    by_cases h1 : p < q
    · have : ¬ q ≤ p := by grind
      simp [h1, this]
    · have : q ≤ p := by grind
      simp [h1, this]
  rw [e]; simp [execOp, ho, hx, hy, binOp, eqGuard, Op.stringOp, str_list, Go.Proofs.bytesLess_eq]
theorem run_seql {xt yt : TypeId} {x y : Operand} {p q : List UInt8} (ho : o.op = .binOp .eql xt x y yt) (hx : evalE E x = .string (str p)) (hy : evalE E y = .string (str q)) :
    ∀ w, (execOp (evalE E) o).run P w = .ok (.value (.bool (decide (p = q)))) w := by
  intro w
  have e : decide (p = q) = (p == q) := by by_cases h : p = q <;> simp [h]
  rw [e]; simp [execOp, ho, hx, hy, binOp, eqGuard, Op.stringOp, str_list]
theorem run_sneq {xt yt : TypeId} {x y : Operand} {p q : List UInt8} (ho : o.op = .binOp .neq xt x y yt) (hx : evalE E x = .string (str p)) (hy : evalE E y = .string (str q)) :
    ∀ w, (execOp (evalE E) o).run P w = .ok (.value (.bool (decide (p ≠ q)))) w := by
  intro w
  have e : decide (p ≠ q) = !(p == q) := by by_cases h : p = q <;> simp [h]
  rw [e]; simp [execOp, ho, hx, hy, binOp, eqGuard, Op.stringOp, str_list]
theorem run_sadd {xt yt : TypeId} {x y : Operand} {p q : List UInt8} (ho : o.op = .binOp .add xt x y yt) (hx : evalE E x = .string (str p)) (hy : evalE E y = .string (str q)) (hl : p.length + q.length ≤ 9223372036854775807) :
    ∀ w, (execOp (evalE E) o).run P w = .ok (.value (.string (str (p ++ q)))) w := by
  intro w
  rw [← str_append]
  have h1 : ¬ (IntKind.i64.max < ((str p).size + (str q).size : Int)) := by
    have e : IntKind.i64.max = 9223372036854775807 := by decide
    rw [e, str_size, str_size]; omega
  simp [execOp, ho, hx, hy, binOp, eqGuard, Op.stringOp, h1]
  rw [str_size, str_size]; omega
theorem run_smax {t : TypeId} {x y : Operand} {p q : List UInt8} (ho : o.op = .call { callee := .builtin .max, args := #[x, y], argTypes := #[t, t] }) (hx : evalE E x = .string (str p)) (hy : evalE E y = .string (str q)) :
    ∀ w, (execOp (evalE E) o).run P w = .ok (.value (.string (str (if q ≤ p then p else q)))) w := by
  intro w
  have e : (!decide (p < q)) = decide (q ≤ p) := by
    by_cases h1 : p < q
    · have : ¬ q ≤ p := by grind
      simp [h1, this]
    · have : q ≤ p := by grind
      simp [h1, this]
  by_cases h : q ≤ p
  · have h2 : ¬ p < q := by grind
    simp [execOp, ho, resolve, invoke, builtin, hx, hy, Builtin.max_, Builtin.max2, Op.stringOp, str_list, Go.Proofs.bytesLess_eq, asBool, h, h2]
  · have h2 : p < q := by grind
    simp [execOp, ho, resolve, invoke, builtin, hx, hy, Builtin.max_, Builtin.max2, Op.stringOp, str_list, Go.Proofs.bytesLess_eq, asBool, h, h2]
theorem run_smin {t : TypeId} {x y : Operand} {p q : List UInt8} (ho : o.op = .call { callee := .builtin .min, args := #[x, y], argTypes := #[t, t] }) (hx : evalE E x = .string (str p)) (hy : evalE E y = .string (str q)) :
    ∀ w, (execOp (evalE E) o).run P w = .ok (.value (.string (str (if p ≤ q then p else q)))) w := by
  intro w
  have e := le_or p q
  by_cases h : p ≤ q
  · simp [execOp, ho, resolve, invoke, builtin, hx, hy, Builtin.min_, Builtin.min2, Op.stringOp, str_list, Go.Proofs.bytesLess_eq, asBool, h, e]
  · simp [execOp, ho, resolve, invoke, builtin, hx, hy, Builtin.min_, Builtin.min2, Op.stringOp, str_list, Go.Proofs.bytesLess_eq, asBool, h, e]
theorem run_slen {t : TypeId} {x : Operand} {p : List UInt8} (ho : o.op = .call { callee := .builtin .len, args := #[x], argTypes := #[t] }) (hu : P.underlying t = some .string) (hx : evalE E x = .string (str p)) :
    ∀ w, (execOp (evalE E) o).run P w = .ok (.value (.int .i64 (p.length : Int))) w := by
  intro w
  rw [← str_size]
  simp [execOp, ho, resolve, invoke, builtin, hx, Builtin.len_, Builtin.lenOf, run_underlying hu, goInt, str_size]
end
end Go.Proofs.YtagbmfdheppmoaaGreatDoor.Sep
