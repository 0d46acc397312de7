import Derived.Test.YtagbmfdheppmoaaGreatDoorSepX
import Derived.CallsIn
/-
  A machine that the kernel can run: its values, its memory, and what they stand for in the model's worlds.
-/
namespace Go.Proofs.YtagbmfdheppmoaaGreatDoor.Vm
set_option linter.unusedVariables false
set_option linter.unusedSimpArgs false
set_option linter.unusedSectionVars false
open Go.RowKit Go.Proofs.YtagbmfdheppmoaaGreatDoor.Sep
noncomputable section
/-- Sums of numbers that are open: c + l0 * x0 + l1 * x1 + .. -/
structure Af where
  c : Int
  l : List Int
/-- What may be asked of such. -/
inductive Cn where
  | pos (a : Af)
  | zero (a : Af)
  | nzero (a : Af)
/-- Values; places in memory are numbers of the machine's own. -/
inductive V where
  | int (k : IntKind) (n : Int)
  | bool (b : Bool)
  | str (s : List UInt8)
  | ptr (b o : Nat)
  | ptr0
  | sl (b o n c : Nat)
  | slo (b o n c k : Nat)
  | sl0
  | map (b : Nat)
  | map0
  | fn (f : Fn) (as bs : List V)
  | yld (b : Nat)
  | fn0
  | ifc (t : TypeId) (v : V)
  | ifc0
  | agg (l : List V)
  | tup (l : List V)
  | isym (k : IntKind) (a : Af)
  | bsym (c : Cn)
  | ystr (l : List Af)
  | sle (b o l k : Nat) (z : Bool)
/-- The model's blocks of the machine's, and how many cells each has. -/
structure Pl where
  at_ : Nat → Option Nat
  sz : Nat → Nat
instance : CoeFun Pl fun _ => Nat → Option Nat := ⟨Pl.at_⟩
def dotF (f : Nat → Int) (l : List Int) : Nat → Int := List.rec (motive := fun _ => Nat → Int) (fun _ => 0) (fun x _ ih i => x * f i + ih (i + 1)) l
/-- The values of the numbers that are open, and what is known of them: sums that are at least so much. -/
class Vl where
  facts : List (List Int × Int)
  val : Nat → Int
  holds : ∀ p ∈ facts, p.2 ≤ dotF val p.1 0
  rule : FuncId → List V → Option V
variable [Vl]
def dot (l : List Int) (i : Nat) : Int := dotF Vl.val l i
def Af.eval (a : Af) : Int := a.c + dot a.l 0
def Cn.eval (c : Cn) : Bool := match c with
  | .pos a => decide (0 < a.eval)
  | .zero a => decide (a.eval = 0)
  | .nzero a => !decide (a.eval = 0)
def Af.byte (a : Af) : UInt8 := UInt8.ofNat a.eval.toNat
/-- What a value stands for; ρ: the model's blocks of the machine's. -/
inductive Den (ρ : Pl) : V → Value → Prop where
  | int (k n) : Den ρ (.int k n) (.int k n)
  | bool (b) : Den ρ (.bool b) (.bool b)
  | str (s : List UInt8) : Den ρ (.str s) (.string ⟨s.toArray⟩)
  | ptr {b g : Nat} (o) (h : ρ b = some g) : Den ρ (.ptr b o) (.pointer (some ⟨g, o, none⟩))
  | ptr0 : Den ρ .ptr0 (.pointer none)
  | sl {b g : Nat} (o n c) (h : ρ b = some g) : Den ρ (.sl b o n c) (.slice (some ⟨g, o, none⟩) n c)
  | slo {b g c C k : Nat} (o n) (h : ρ b = some g) (hc : c ≤ C) (hz : o + C * k = ρ.sz b ∧ 0 < k) : Den ρ (.slo b o n c k) (.slice (some ⟨g, o, none⟩) n C)
  | sl0 : Den ρ .sl0 (.slice none 0 0)
  | map {b g : Nat} (h : ρ b = some g) : Den ρ (.map b) (.map (some g))
  | map0 : Den ρ .map0 (.map none)
  | fn (f) {as bs : List V} {As Bs : List Value} (la : as.length = As.length) (ha : ∀ (i : Nat) (v : V) (w : Value), as[i]? = some v → As[i]? = some w → Den ρ v w)
      (lb : bs.length = Bs.length) (hb : ∀ (i : Nat) (v : V) (w : Value), bs[i]? = some v → Bs[i]? = some w → Den ρ v w) : Den ρ (.fn f as bs) (.func f As.toArray Bs.toArray)
  | yld {b g : Nat} (h : ρ b = some g) : Den ρ (.yld b) (.func (.yield g) #[] #[])
  | fn0 : Den ρ .fn0 .nilFunc
  | ifc (t) {v w} (h : Den ρ v w) : Den ρ (.ifc t v) (.iface t w)
  | ifc0 : Den ρ .ifc0 .nilIface
  | agg {as : List V} {As : List Value} (la : as.length = As.length) (ha : ∀ (i : Nat) (v : V) (w : Value), as[i]? = some v → As[i]? = some w → Den ρ v w) : Den ρ (.agg as) (.agg As.toArray)
  | tup {as : List V} {As : List Value} (la : as.length = As.length) (ha : ∀ (i : Nat) (v : V) (w : Value), as[i]? = some v → As[i]? = some w → Den ρ v w) : Den ρ (.tup as) (.tuple As.toArray)
  | isym (k a) : Den ρ (.isym k a) (.int k a.eval)
  | bsym (c) : Den ρ (.bsym c) (.bool c.eval)
  | sle {b g C k : Nat} (o l : Nat) (z : Bool) (h : ρ b = some g) (hz : o + C * k = ρ.sz b ∧ 0 < k) (hl : l ≤ C) : Den ρ (.sle b o l k z) (.slice (some ⟨g, if C = l then o else o + l * k, none⟩) 0 (bif z then 0 else C - l))
  | ystr (l : List Af) : Den ρ (.ystr l) (.string ⟨(l.map Af.byte).toArray⟩)
def Le (ρ σ : Pl) : Prop := ∀ b g, ρ b = some g → σ b = some g ∧ σ.sz b = ρ.sz b
theorem Le.refl (ρ : Pl) : Le ρ ρ := fun _ _ h => ⟨h, rfl⟩
theorem Le.trans {ρ σ τ : Pl} (h : Le ρ σ) (k : Le σ τ) : Le ρ τ := fun b g e => ⟨(k b g (h b g e).1).1, (k b g (h b g e).1).2.trans (h b g e).2⟩
theorem Den.mono {ρ σ : Pl} (l : Le ρ σ) {v : V} {w : Value} (h : Den ρ v w) : Den σ v w := by
  induction h with
  | int k n => exact .int k n
  | bool b => exact .bool b
  | str s => exact .str s
  | ptr o h => exact .ptr o (l _ _ h).1
  | ptr0 => exact .ptr0
  | sl o n c h => exact .sl o n c (l _ _ h).1
  | slo o n h hc hz => exact .slo o n (l _ _ h).1 hc ((l _ _ h).2.symm ▸ hz)
  | sl0 => exact .sl0
  | map h => exact .map (l _ _ h).1
  | map0 => exact .map0
  | fn f la _ lb _ iha ihb => exact .fn f la iha lb ihb
  | yld h => exact .yld (l _ _ h).1
  | fn0 => exact .fn0
  | ifc t _ ih => exact .ifc t ih
  | ifc0 => exact .ifc0
  | agg la _ ih => exact .agg la ih
  | tup la _ ih => exact .tup la ih
  | isym k a => exact .isym k a
  | bsym c => exact .bsym c
  | ystr l => exact .ystr l
  | sle o i z h hz hl => exact .sle o i z (l _ _ h).1 ((l _ _ h).2.symm ▸ hz) hl
/-- A value stands for one value alone. -/
theorem Den.fun_ {ρ : Pl} {v : V} {w : Value} (h : Den ρ v w) : ∀ {w' : Value}, Den ρ v w' → w = w' := by
  have lists : ∀ {as : List V} {As Bs : List Value}, as.length = As.length → as.length = Bs.length → (∀ (i : Nat) (v : V) (w : Value), as[i]? = some v → As[i]? = some w → ∀ w', Den ρ v w' → w = w') → (∀ (i : Nat) (v : V) (w : Value), as[i]? = some v → Bs[i]? = some w → Den ρ v w) → As = Bs := by
    intro l1 As Bs h1 h2 h3 h4
    apply List.ext_getElem?
    intro i
    by_cases hi : i < l1.length
    · have e1 : As[i]? = some (As[i]'(h1 ▸ hi)) := List.getElem?_eq_getElem _
      have e2 : Bs[i]? = some (Bs[i]'(h2 ▸ hi)) := List.getElem?_eq_getElem _
      have e0 : l1[i]? = some l1[i] := List.getElem?_eq_getElem _
      rw [e1, e2, h3 i _ _ e0 e1 _ (h4 i _ _ e0 e2)]
    · rw [List.getElem?_eq_none (by omega), List.getElem?_eq_none (by omega)]
  induction h with
  | int k n => intro w' h'; cases h'; rfl
  | bool b => intro w' h'; cases h'; rfl
  | str s => intro w' h'; cases h'; rfl
  | ptr o h => intro w' h'; cases h' with | ptr _ h2 => rw [h] at h2; cases h2; rfl
  | ptr0 => intro w' h'; cases h'; rfl
  | sl o n c h => intro w' h'; cases h' with | sl _ _ _ h2 => rw [h] at h2; cases h2; rfl
  | slo o n h hc hz =>
    intro w' h'
    cases h' with
    | slo _ _ h2 hc2 hz2 =>
      rw [h] at h2
      cases h2
      have e := hz.1.trans hz2.1.symm
      have := Nat.eq_of_mul_eq_mul_right hz.2 (Nat.add_left_cancel e)
      subst this
      rfl
  | sl0 => intro w' h'; cases h'; rfl
  | map h => intro w' h'; cases h' with | map h2 => rw [h] at h2; cases h2; rfl
  | map0 => intro w' h'; cases h'; rfl
  | fn f la _ lb _ iha ihb =>
    intro w' h'
    cases h' with
    | fn _ la2 ha2 lb2 hb2 =>
      rw [lists la la2 (fun i v w e1 e2 w' d => iha i v w e1 e2 d) ha2, lists lb lb2 (fun i v w e1 e2 w' d => ihb i v w e1 e2 d) hb2]
  | yld h => intro w' h'; cases h' with | yld h2 => rw [h] at h2; cases h2; rfl
  | fn0 => intro w' h'; cases h'; rfl
  | ifc t _ ih => intro w' h'; cases h' with | ifc _ h2 => rw [ih h2]
  | ifc0 => intro w' h'; cases h'; rfl
  | agg la _ ih => intro w' h'; cases h' with | agg la2 ha2 => rw [lists la la2 (fun i v w e1 e2 w' d => ih i v w e1 e2 d) ha2]
  | tup la _ ih => intro w' h'; cases h' with | tup la2 ha2 => rw [lists la la2 (fun i v w e1 e2 w' d => ih i v w e1 e2 d) ha2]
  | isym k a => intro w' h'; cases h'; rfl
  | bsym c => intro w' h'; cases h'; rfl
  | ystr l => intro w' h'; cases h'; rfl
  | sle o i z h hz hl =>
    intro w' h'
    cases h' with
    | sle _ _ _ h2 hz2 hl2 =>
      rw [h] at h2
      cases h2
      have e := hz.1.trans hz2.1.symm
      have := Nat.eq_of_mul_eq_mul_right hz.2 (Nat.add_left_cancel e)
      subst this
      rfl
/-- The same of lists. -/
def DL (ρ : Pl) (as : List V) (As : List Value) : Prop := as.length = As.length ∧ ∀ (i : Nat) (v : V) (w : Value), as[i]? = some v → As[i]? = some w → Den ρ v w
theorem DL.mono {ρ σ : Pl} (l : Le ρ σ) {as : List V} {As : List Value} (h : DL ρ as As) : DL σ as As := ⟨h.1, fun i v w a b => (h.2 i v w a b).mono l⟩
section
variable {ρ : Pl}
theorem DL.nil : DL ρ [] [] := ⟨rfl, fun i v w h => by simp at h⟩
theorem DL.cons {v : V} {w : Value} {as : List V} {As : List Value} (h : Den ρ v w) (k : DL ρ as As) : DL ρ (v :: as) (w :: As) := by
  refine ⟨by simp [k.1], fun i x y a b => ?_⟩
  cases i with
  | zero => simp at a b; subst a; subst b; exact h
  | succ i => simp at a b; exact k.2 i x y a b
theorem DL.head {v : V} {w : Value} {as : List V} {As : List Value} (h : DL ρ (v :: as) (w :: As)) : Den ρ v w := h.2 0 v w rfl rfl
theorem DL.tail {v : V} {w : Value} {as : List V} {As : List Value} (h : DL ρ (v :: as) (w :: As)) : DL ρ as As := ⟨by simpa using h.1, fun i x y a b => h.2 (i + 1) x y (by simpa using a) (by simpa using b)⟩
theorem DL.inv {v : V} {as : List V} {Bs : List Value} (h : DL ρ (v :: as) Bs) : ∃ w As, Bs = w :: As ∧ Den ρ v w ∧ DL ρ as As := by
  cases Bs with
  | nil => have := h.1; simp at this
  | cons w As => exact ⟨w, As, rfl, h.head, h.tail⟩
theorem DL.inv0 {Bs : List Value} (h : DL ρ [] Bs) : Bs = [] := by have := h.1; cases Bs <;> simp_all
theorem DL.get {as : List V} {As : List Value} (h : DL ρ as As) {i : Nat} {v : V} (e : as[i]? = some v) : ∃ w, As[i]? = some w ∧ Den ρ v w := by
  have hi := (List.getElem?_eq_some_iff.1 e).1
  have hj : i < As.length := h.1 ▸ hi
  exact ⟨As[i], List.getElem?_eq_getElem hj, h.2 i _ _ e (List.getElem?_eq_getElem hj)⟩
theorem DL.app {as bs : List V} {As Bs : List Value} (h : DL ρ as As) (k : DL ρ bs Bs) : DL ρ (as ++ bs) (As ++ Bs) := by
  refine ⟨by simp [h.1, k.1], fun i v w a b => ?_⟩
  by_cases hi : i < as.length
  · rw [List.getElem?_append_left hi] at a
    rw [List.getElem?_append_left (h.1 ▸ hi)] at b
    exact h.2 i v w a b
  · rw [List.getElem?_append_right (by omega)] at a
    rw [List.getElem?_append_right (by rw [← h.1]; omega)] at b
    rw [← h.1] at b
    exact k.2 _ v w a b
theorem DL.take {as : List V} {As : List Value} (n : Nat) (h : DL ρ as As) : DL ρ (as.take n) (As.take n) := by
  refine ⟨by simp [h.1], fun i v w a b => ?_⟩
  rw [List.getElem?_take] at a b
  split at a
  · rename_i hi; rw [if_pos hi] at b; exact h.2 i v w a b
  · cases a
theorem DL.drop {as : List V} {As : List Value} (n : Nat) (h : DL ρ as As) : DL ρ (as.drop n) (As.drop n) := by
  refine ⟨by simp [h.1], fun i v w a b => ?_⟩
  rw [List.getElem?_drop] at a b
  exact h.2 _ v w a b
theorem Den.ofAgg {as : List V} {w : Value} (h : Den ρ (.agg as) w) : ∃ As : List Value, w = .agg As.toArray ∧ DL ρ as As := by cases h with | agg la ha => exact ⟨_, rfl, la, ha⟩
theorem Den.ofTup {as : List V} {w : Value} (h : Den ρ (.tup as) w) : ∃ As : List Value, w = .tuple As.toArray ∧ DL ρ as As := by cases h with | tup la ha => exact ⟨_, rfl, la, ha⟩
theorem DL.agg {as : List V} {As : List Value} (h : DL ρ as As) : Den ρ (.agg as) (.agg As.toArray) := .agg h.1 h.2
theorem DL.tup {as : List V} {As : List Value} (h : DL ρ as As) : Den ρ (.tup as) (.tuple As.toArray) := .tup h.1 h.2
/-- The cells that a value lies in. -/
def cellsV : V → List V | .agg l => l | v => [v]
theorem Den.cells {v : V} {w : Value} (h : Den ρ v w) : DL ρ (cellsV v) w.cells.toList := by
  cases h with
  | agg la ha => exact ⟨by simpa [cellsV, Value.cells] using la, by simpa [cellsV, Value.cells] using ha⟩
  | _ => (simp only [cellsV, Value.cells]; refine .cons ?_ .nil; constructor <;> assumption)
end
end
end Go.Proofs.YtagbmfdheppmoaaGreatDoor.Vm
