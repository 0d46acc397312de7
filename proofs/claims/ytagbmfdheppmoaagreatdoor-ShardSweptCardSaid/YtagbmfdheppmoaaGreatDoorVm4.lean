import Derived.Test.YtagbmfdheppmoaaGreatDoorVm1
import Derived.Test.YtagbmfdheppmoaaGreatDoorSepK
/-
  The machine's operations that turn no memory, and that they are the model's.
-/
namespace Go.Proofs.YtagbmfdheppmoaaGreatDoor.Vm
set_option linter.unusedVariables false
set_option linter.unusedSimpArgs false
set_option linter.unusedSectionVars false
open Go.RowKit Go.Proofs.YtagbmfdheppmoaaGreatDoor.Sep
noncomputable section
variable [Vl]
/-- The model's own piece, where it looks at no world, and yields what lies in no memory. -/
def fb (P : Program) (s : Sem Value) : Option V := match still P s with | some r => ofV r | none => none
theorem fb_run {P : Program} {s : Sem Value} {v : V} (h : fb P s = some v) : ∃ r, (∀ w, s.run P w = .ok r w) ∧ ∀ ρ, Den ρ v r := by
  unfold fb at h
  split at h
  · rename_i r e; exact ⟨r, still_run e, fun ρ => ofV_den h⟩
  · cases h
/-- The model's value, if it lies in no memory (structs and arrays of such, too). -/
def toV : V → Option Value
  | .agg l => Option.rec none (fun r => some (.agg r.toArray)) (oall to1 l)
  | v => to1 v
theorem oall_to {ρ : Pl} {l : List V} : ∀ {r L : List Value}, oall to1 l = some r → DL ρ l L → L = r := by
  induction l with
  | nil => intro r L h d; have : [] = r := Option.some.inj h; subst this; exact d.inv0
  | cons x l ih => intro r L h d; obtain ⟨y, ys, h1, h2, rfl⟩ := oall_cons h; obtain ⟨w, As, rfl, d1, d2⟩ := d.inv; rw [to1_den h1 d1, ih h2 d2]
theorem toV_den {ρ : Pl} {v : V} {x w : Value} (h : toV v = some x) (d : Den ρ v w) : w = x := by
  unfold toV at h
  split at h
  · rename_i l
    obtain ⟨As, rfl, d2⟩ := d.ofAgg
    cases e : oall to1 l with
    | none => rw [e] at h; cases h
    | some r => rw [e] at h; have : Value.agg r.toArray = x := Option.some.inj h; subst this; rw [oall_to e d2]
  · exact to1_den h d
/-! ### numbers and texts -/
def ilt (a b : Int) : Bool := match a, b with | .ofNat a, .ofNat b => Nat.blt a b | .negSucc a, .negSucc b => Nat.blt b a | .negSucc _, .ofNat _ => true | .ofNat _, .negSucc _ => false
def ieq (a b : Int) : Bool := match a, b with | .ofNat a, .ofNat b => Nat.beq a b | .negSucc a, .negSucc b => Nat.beq a b | _, _ => false
theorem nblt (a b : Nat) : Nat.blt a b = decide (a < b) := by
  show Nat.ble (a + 1) b = _
  by_cases h : a < b
  · rw [decide_eq_true h]; exact Nat.ble_eq_true_of_le h
  · rw [decide_eq_false h]
    cases e : Nat.ble (a + 1) b with
    | false => rfl
    | true => exact absurd (Nat.le_of_ble_eq_true e) h
theorem ilt_eq (a b : Int) : ilt a b = decide (a < b) := by
  cases a <;> cases b <;> simp only [ilt, nblt]
  · exact decide_eq_decide.2 (by (try simp only [Int.ofNat_eq_natCast]); omega)
  · symm; exact decide_eq_false (by (try simp only [Int.ofNat_eq_natCast]); omega)
  · symm; exact decide_eq_true (by (try simp only [Int.ofNat_eq_natCast]); omega)
  · exact decide_eq_decide.2 (by (try simp only [Int.ofNat_eq_natCast]); omega)
theorem ieq_eq (a b : Int) : ieq a b = (a == b) := by
  have e : (a == b) = decide (a = b) := by by_cases h : a = b <;> simp [h]
  rw [e]
  cases a <;> cases b <;> simp only [ieq, nbeq]
  · exact decide_eq_decide.2 (by (try simp only [Int.ofNat_eq_natCast]); omega)
  · symm; exact decide_eq_false (by (try simp only [Int.ofNat_eq_natCast]); omega)
  · symm; exact decide_eq_false (by (try simp only [Int.ofNat_eq_natCast]); omega)
  · exact decide_eq_decide.2 (by (try simp only [Int.ofNat_eq_natCast]); omega)
def b8 (b : UInt8) : Nat := b.toBitVec.toFin.val
def seq (a b : List UInt8) : Bool := List.rec (motive := fun _ => List UInt8 → Bool) (fun b => match b with | [] => true | _ => false) (fun x _ ih b => match b with | [] => false | y :: b => Bool.rec false (ih b) (Nat.beq (b8 x) (b8 y))) a b
def slt (a b : List UInt8) : Bool := List.rec (motive := fun _ => List UInt8 → Bool) (fun b => match b with | [] => false | _ => true) (fun x _ ih b => match b with | [] => false | y :: b => Bool.rec (Bool.rec false (ih b) (Nat.beq (b8 x) (b8 y))) true (Nat.blt (b8 x) (b8 y))) a b
theorem b8_eq (x y : UInt8) : Nat.beq (b8 x) (b8 y) = (x == y) := by
  rw [nbeq]
  have : (b8 x = b8 y) ↔ x = y := ⟨fun h => UInt8.toNat_inj.1 h, fun h => by rw [h]⟩
  by_cases h : x = y
  · subst h; simp
  · have h2 : ¬ b8 x = b8 y := fun e => h (this.1 e)
    simp [h, h2]
theorem b8_lt (x y : UInt8) : Nat.blt (b8 x) (b8 y) = decide (x < y) := by
  rw [nblt]; exact decide_eq_decide.2 UInt8.lt_iff_toNat_lt.symm
theorem seq_eq : ∀ a b : List UInt8, seq a b = (a == b)
  | [], [] => rfl
  | [], _ :: _ => rfl
  | x :: a, [] => rfl
  | x :: a, y :: b => by
    have e : seq (x :: a) (y :: b) = Bool.rec (motive := fun _ => Bool) false (seq a b) (Nat.beq (b8 x) (b8 y)) := rfl
    rw [e]; rw [b8_eq, seq_eq a b, List.cons_beq_cons]
    cases x == y <;> rfl
theorem slt_eq : ∀ a b : List UInt8, slt a b = Op.bytesLess a b
  | [], [] => rfl
  | [], _ :: _ => rfl
  | x :: a, [] => rfl
  | x :: a, y :: b => by
    have e : slt (x :: a) (y :: b) = Bool.rec (motive := fun _ => Bool) (Bool.rec (motive := fun _ => Bool) false (slt a b) (Nat.beq (b8 x) (b8 y))) true (Nat.blt (b8 x) (b8 y)) := rfl
    rw [e]; rw [b8_eq, b8_lt, slt_eq a b]
    simp only [Op.bytesLess]
    cases decide (x < y) <;> cases x == y <;> rfl
def strOp (op : BinOp) (p q : List UInt8) : Option V := match op with
  | .add => bif Nat.ble (len p + len q) 9223372036854775807 then some (.str (app p q)) else none
  | .eql => some (.bool (seq p q))
  | .neq => some (.bool (!seq p q))
  | .lss => some (.bool (slt p q))
  | .leq => some (.bool (slt p q || seq p q))
  | .gtr => some (.bool (!(slt p q || seq p q)))
  | .geq => some (.bool (!slt p q))
  | _ => none
theorem strOp_run {P : Program} {op : BinOp} {p q : List UInt8} {v : V} {ρ : Pl} (h : strOp op p q = some v) : ∃ r, (∀ w, (Op.stringOp op ⟨p.toArray⟩ ⟨q.toArray⟩).run P w = .ok r w) ∧ Den ρ v r := by
  unfold strOp at h
  split at h <;> first | (cases h; done) | skip
  case h_1 =>
    cases hb : Nat.ble (len p + len q) 9223372036854775807 with
    | false => rw [hb] at h; cases h
    | true =>
      rw [hb] at h
      simp only [cond_true, Option.some.injEq] at h
      subst h
      have h1 := Nat.le_of_ble_eq_true hb
      rw [len_eq, len_eq] at h1
      refine ⟨_, fun w => ?_, by rw [app_eq]; exact .str _⟩
      have h2 : ¬ ((((⟨p.toArray⟩ : ByteArray).size + (⟨q.toArray⟩ : ByteArray).size : Nat) : Int) > IntKind.i64.max) := by
        have : IntKind.i64.max = 9223372036854775807 := rfl
        rw [this]
        show ¬ (((p.toArray.size + q.toArray.size : Nat) : Int) > 9223372036854775807)
        simp only [List.size_toArray]; omega
      have e : (⟨p.toArray⟩ : ByteArray) ++ ⟨q.toArray⟩ = ⟨(p ++ q).toArray⟩ := by
        apply ByteArray.ext
        simp
      simp only [Op.stringOp, if_neg h2, e]
      rfl
  all_goals
    simp only [Option.some.injEq] at h
    subst h
    refine ⟨_, fun w => ?_, .bool _⟩
    simp only [Op.stringOp, ByteArray.toList_mk, seq_eq, slt_eq]
    rfl
def intOp (P : Program) (op : BinOp) (xt : TypeId) (k k' : IntKind) (x y : Int) : Option V := match op with
  | .lss => bif k == k' then some (.bool (ilt x y)) else none
  | .gtr => bif k == k' then some (.bool (ilt y x)) else none
  | .leq => bif k == k' then some (.bool (!ilt y x)) else none
  | .geq => bif k == k' then some (.bool (!ilt x y)) else none
  | .eql => bif k == k' then some (.bool (ieq x y)) else none
  | .neq => bif k == k' then some (.bool (!ieq x y)) else none
  | op => fb P (binOp op xt (.int k x) (.int k' y))
theorem intOp_run {P : Program} {op : BinOp} {xt : TypeId} {k k' : IntKind} {x y : Int} {v : V} {ρ : Pl} (h : intOp P op xt k k' x y = some v) : ∃ r, (∀ w, (binOp op xt (.int k x) (.int k' y)).run P w = .ok r w) ∧ Den ρ v r := by
  unfold intOp at h
  split at h
  case h_7 => obtain ⟨r, h1, h2⟩ := fb_run h; exact ⟨r, h1, h2 ρ⟩
  all_goals
    cases hb : k == k' with
    | false => rw [hb] at h; cases h
    | true =>
      rw [hb] at h
      simp only [cond_true, Option.some.injEq] at h
      subst h
      have e : k = k' := by simpa using hb
      subst e
      refine ⟨_, fun w => ?_, .bool _⟩
      simp only [binOp, ne_eq, not_true_eq_false, if_false, Op.intCmp, ilt_eq, ieq_eq]
      first
        | rfl
        | (simp only [← decide_not, Int.not_lt]; rfl)
end
end Go.Proofs.YtagbmfdheppmoaaGreatDoor.Vm
