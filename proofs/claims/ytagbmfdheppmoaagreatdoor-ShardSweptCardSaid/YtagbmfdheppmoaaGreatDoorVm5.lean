import Derived.Test.YtagbmfdheppmoaaGreatDoorVm4
import Derived.LaidEql
/-
  Operations that turn no memory: moves, parts, places, slices.
-/
namespace Go.Proofs.YtagbmfdheppmoaaGreatDoor.Vm
set_option linter.unusedVariables false
set_option linter.unusedSimpArgs false
set_option linter.unusedSectionVars false
open Go.RowKit Go.Proofs.YtagbmfdheppmoaaGreatDoor.Sep
noncomputable section
variable [Vl]
/-- What an operation does: what it yields (none: nothing), and the memory behind it. -/
def Does (P : Program) (Fr : Nat → Prop) (W : World) (ρ : Pl) (a : Act) (w : World) (o : Oper) (v : Option V) (H' : T) (n' : Nat) : Prop :=
  ∃ w' ρ', Le ρ ρ' ∧ HR Fr W ρ' H' n' w' ∧ match v with
    | some v => ∃ r, (execOp a.eval o).run P w = .ok (.value r) w' ∧ Den ρ' v r
    | none => (execOp a.eval o).run P w = .ok .skip w'
def unT (P : Program) (t : TypeId) : Option TypeDesc := still P (underlying t)
def szT (P : Program) (t : TypeId) : Option Nat := still P (sizeOf t)
def natV : Option V → Option Nat | some (.int _ (.ofNat i)) => some i | _ => none
section
variable {P : Program} {Fr : Nat → Prop} {W w : World} {ρ : Pl} {H : T} {n : Nat} {a : Act} {N : Nat} {E : En} {o : Oper}
theorem does_val (hr : HR Fr W ρ H n w) {v : V} {r : Value} (h : (execOp a.eval o).run P w = .ok (.value r) w) (d : Den ρ v r) : Does P Fr W ρ a w o (some v) H n :=
  ⟨w, ρ, Le.refl ρ, hr, r, h, d⟩
/-- An operation that looks at no world yields that. -/
def Pur (P : Program) (ρ : Pl) (a : Act) (o : Oper) (v : V) : Prop := ∃ r, Den ρ v r ∧ ∀ w, (execOp a.eval o).run P w = .ok (.value r) w
theorem pur_val {v : V} {r : Value} (h : ∀ w, (execOp a.eval o).run P w = .ok (.value r) w) (d : Den ρ v r) : Pur P ρ a o v := ⟨r, d, h⟩
theorem Pur.does {v : V} (h : Pur P ρ a o v) (hr : HR Fr W ρ H n w) : Does P Fr W ρ a w o (some v) H n := by obtain ⟨r, d, h⟩ := h; exact does_val hr (h w) d
theorem un_run {t : TypeId} {d : TypeDesc} (h : unT P t = some d) (w : World) : (underlying t).run P w = .ok d w := still_run h w
theorem sz_run {t : TypeId} {k : Nat} (h : szT P t = some k) (w : World) : (sizeOf t).run P w = .ok k w := still_run h w
theorem den_int' {k : IntKind} {i : Int} {v : Value} (d : Den ρ (.int k i) v) : v = .int k i := by cases d; rfl
theorem den_bool {b : Bool} {v : Value} (d : Den ρ (.bool b) v) : v = .bool b := by cases d; rfl
theorem natV_den (he : HE ρ a N E) {x : Operand} {i : Nat} (h : natV (evV E x) = some i) : ∃ k, a.eval x = .int k (i : Int) := by
  unfold natV at h
  split at h
  · rename_i k j e
    have : j = i := Option.some.inj h
    subst this
    exact ⟨k, den_int' (evV_den he e)⟩
  · cases h
theorem den_int {k : IntKind} {i : Int} {v : Value} (d : Den ρ (.int k i) v) : v = .int k i := by cases d; rfl
theorem den_ptr {b f : Nat} {v : Value} (d : Den ρ (.ptr b f) v) : ∃ g, ρ b = some g ∧ v = .pointer (some ⟨g, f, none⟩) := by cases d with | ptr o h => exact ⟨_, h, rfl⟩
theorem den_sl {b f m c : Nat} {v : Value} (d : Den ρ (.sl b f m c) v) : ∃ g, ρ b = some g ∧ v = .slice (some ⟨g, f, none⟩) m c := by cases d with | sl o n c h => exact ⟨_, h, rfl⟩
theorem den_slo {b f m c k : Nat} {v : Value} (d : Den ρ (.slo b f m c k) v) : ∃ g C, ρ b = some g ∧ c ≤ C ∧ (f + C * k = ρ.sz b ∧ 0 < k) ∧ v = .slice (some ⟨g, f, none⟩) m C := by cases d with | slo o n h hc hz => exact ⟨_, _, h, hc, hz, rfl⟩
theorem den_sle {b o l k : Nat} {z : Bool} {v : Value} (d : Den ρ (.sle b o l k z) v) : ∃ g C, ρ b = some g ∧ (o + C * k = ρ.sz b ∧ 0 < k) ∧ l ≤ C ∧ v = .slice (some ⟨g, if C = l then o else o + l * k, none⟩) 0 (bif z then 0 else C - l) := by cases d with | sle o l z h hz hl => exact ⟨_, _, h, hz, hl, rfl⟩
theorem den_str {s : List UInt8} {v : Value} (d : Den ρ (.str s) v) : v = .string ⟨s.toArray⟩ := by cases d; rfl
/-! ### moves -/
theorem pur_move (he : HE ρ a N E) {x : Operand} {v : V} (ho : o.op = .move x ∨ o.op = .assign x) (h : evV E x = some v) : Pur P ρ a o v :=
  pur_val (r := a.eval x) (fun w => by rcases ho with ho | ho <;> simp [execOp, ho]) (evV_den he h)
theorem does_move (hr : HR Fr W ρ H n w) (he : HE ρ a N E) {x : Operand} {v : V} (ho : o.op = .move x ∨ o.op = .assign x) (h : evV E x = some v) : Does P Fr W ρ a w o (some v) H n := (pur_move he ho h).does hr
def pickV (E : En) (c x y : Operand) : Option V := match evV E c with | some (.bool t) => evV E (bif t then x else y) | _ => none
theorem pur_pick (he : HE ρ a N E) {c x y : Operand} {v : V} (ho : o.op = .pick c x y) (h : pickV E c x y = some v) : Pur P ρ a o v := by
  unfold pickV at h
  split at h
  · rename_i t e
    have hc : a.eval c = .bool t := den_bool (evV_den he e)
    refine pur_val (r := a.eval (bif t then x else y)) (fun w => ?_) (evV_den he h)
    cases t <;> simp [execOp, ho, hc, asBool]
  · cases h
theorem does_pick (hr : HR Fr W ρ H n w) (he : HE ρ a N E) {c x y : Operand} {v : V} (ho : o.op = .pick c x y) (h : pickV E c x y = some v) : Does P Fr W ρ a w o (some v) H n := (pur_pick he ho h).does hr
def nilV (v : Option V) : Option V := match v with | some (.ptr b f) => some (.ptr b f) | some (.fn (.func g) l1 bs) => some (.fn (.func g) l1 bs) | _ => none
theorem pur_nil (he : HE ρ a N E) {x : Operand} {v : V} (ho : o.op = .nilCheck x) (h : nilV (evV E x) = some v) : Pur P ρ a o v := by
  unfold nilV at h
  split at h
  · rename_i b f e
    have d := evV_den he e
    obtain ⟨g, hg, hx⟩ := den_ptr d
    cases h
    exact pur_val (r := .pointer (some ⟨g, f, none⟩)) (fun w => by simp [execOp, ho, hx]) (hx ▸ d)
  · rename_i g l1 bs e
    have d := evV_den he e
    cases h
    have hx : ∃ As Bs, a.eval x = .func (.func g) As Bs := by generalize a.eval x = X at d; cases d; exact ⟨_, _, rfl⟩
    obtain ⟨As, Bs, hx⟩ := hx
    exact pur_val (r := .func (.func g) As Bs) (fun w => by simp [execOp, ho, hx]) (hx ▸ d)
  · cases h
theorem does_nil (hr : HR Fr W ρ H n w) (he : HE ρ a N E) {x : Operand} {v : V} (ho : o.op = .nilCheck x) (h : nilV (evV E x) = some v) : Does P Fr W ρ a w o (some v) H n := (pur_nil he ho h).does hr
/-! ### parts -/
def extractV (v : Option V) (i : Nat) : Option V := match v with | some (.tup l) => nth l i | _ => none
theorem pur_extract (he : HE ρ a N E) {x : Operand} {i : Nat} {v : V} (ho : o.op = .extract x i) (h : extractV (evV E x) i = some v) : Pur P ρ a o v := by
  unfold extractV at h
  split at h
  · rename_i l e
    obtain ⟨As, hx, d⟩ := (evV_den he e).ofTup
    rw [nth_eq] at h
    obtain ⟨r, e1, d1⟩ := d.get h
    exact pur_val (r := r) (fun w => by simp [execOp, ho, hx, Instr.extract, e1]) d1
  · cases h
theorem does_extract (hr : HR Fr W ρ H n w) (he : HE ρ a N E) {x : Operand} {i : Nat} {v : V} (ho : o.op = .extract x i) (h : extractV (evV E x) i = some v) : Does P Fr W ρ a w o (some v) H n := (pur_extract he ho h).does hr
def fieldV (P : Program) (t : TypeId) (v : Option V) (f : Nat) : Option V := match unT P t with
  | some (.struct fs) => (match nth fs.toList f with
    | some d => (match v with | some (.agg l) => partV P d.type l d.offset | _ => none)
    | none => none)
  | _ => none
theorem pur_field (he : HE ρ a N E) {t : TypeId} {x : Operand} {f : Nat} {v : V} (ho : o.op = .field t x f) (h : fieldV P t (evV E x) f = some v) : Pur P ρ a o v := by
  unfold fieldV at h
  split at h
  · rename_i fs hu
    split at h
    · rename_i d hd
      split at h
      · rename_i l e
        obtain ⟨As, hx, dl⟩ := (evV_den he e).ofAgg
        rw [nth_eq] at hd
        obtain ⟨r, d1, hp⟩ := partV_run h dl
        have hd2 : fs[f]? = some d := by simpa using hd
        exact pur_val (r := r) (fun w => by simp [execOp, ho, hx, Instr.field, un_run hu, hd2, asAgg, hp]) d1
      · cases h
    · cases h
  · cases h
theorem does_field (hr : HR Fr W ρ H n w) (he : HE ρ a N E) {t : TypeId} {x : Operand} {f : Nat} {v : V} (ho : o.op = .field t x f) (h : fieldV P t (evV E x) f = some v) : Does P Fr W ρ a w o (some v) H n := (pur_field he ho h).does hr
def indexV (P : Program) (t : TypeId) (v : Option V) (i : Option Nat) : Option V := match i with
  | some i => (match v with
    | some (.agg l) => (match unT P t with
      | some (.array m e) => (match szT P e with | some k => bif Nat.blt i m then partV P e l (Nat.mul i k) else none | none => none)
      | _ => none)
    | some (.str s) => (match unT P t with
      | some .string => (match nth s i with | some b => some (.int .u8 (.ofNat (b8 b))) | none => none)
      | _ => none)
    | _ => none)
  | none => none
theorem pur_index (he : HE ρ a N E) {t : TypeId} {x ix : Operand} {v : V} (ho : o.op = .index t x ix) (h : indexV P t (evV E x) (natV (evV E ix)) = some v) : Pur P ρ a o v := by
  unfold indexV at h
  split at h
  · rename_i i hi
    obtain ⟨kd, hix⟩ := natV_den he hi
    split at h
    · rename_i l e
      obtain ⟨As, hx, dl⟩ := (evV_den he e).ofAgg
      split at h
      · rename_i m e1 hu
        split at h
        · rename_i k hk
          cases hb : Nat.blt i m with
          | false => rw [hb] at h; cases h
          | true =>
            rw [hb] at h
            obtain ⟨r, d1, hp⟩ := partV_run h dl
            have hlt : i < m := Nat.lt_of_succ_le (Nat.le_of_ble_eq_true hb)
            exact pur_val (r := r) (fun w => by simp [execOp, ho, hx, hix, Instr.index, asIntOf, un_run hu, sz_run hk, hlt]; rw [show Sem.run P (part e1 As.toArray (i * k)) w = _ from hp w]; rfl) d1
        · cases h
      · cases h
    · rename_i s e
      have hx := den_str (evV_den he e)
      split at h
      · rename_i hu
        split at h
        · rename_i b hb
          rw [nth_eq] at hb
          cases h
          refine pur_val (r := .int .u8 (b8 b : Nat)) (fun w => ?_) (.int ..)
          obtain ⟨h1, h2⟩ := List.getElem?_eq_some_iff.1 hb
          have h3 : i < (⟨s.toArray⟩ : ByteArray).size := by show i < s.toArray.size; simpa using h1
          have h4 : (⟨s.toArray⟩ : ByteArray)[i] = b := h2
          simp [execOp, ho, hx, hix, Instr.index, asIntOf, un_run hu, h3, h4]
          rfl
        · cases h
      · cases h
    · cases h
  · cases h
theorem does_index (hr : HR Fr W ρ H n w) (he : HE ρ a N E) {t : TypeId} {x ix : Operand} {v : V} (ho : o.op = .index t x ix) (h : indexV P t (evV E x) (natV (evV E ix)) = some v) : Does P Fr W ρ a w o (some v) H n := (pur_index he ho h).does hr
def makeIfc (P : Program) (t : TypeId) (v : Option V) : Option V := match unT P t with | some (.interface _) => none | some _ => (match v with | some v => some (.ifc t v) | none => none) | none => none
theorem pur_ifc (he : HE ρ a N E) {t : TypeId} {x : Operand} {v : V} (ho : o.op = .makeInterface t x) (h : makeIfc P t (evV E x) = some v) : Pur P ρ a o v := by
  unfold makeIfc at h
  split at h
  · cases h
  · rename_i d hn hu
    split at h
    · rename_i v' e
      cases h
      refine pur_val (r := .iface t (a.eval x)) (fun w => ?_) (.ifc t (evV_den he e))
      cases d <;> first | (exact absurd rfl (fun e => hn _ e)) | (simp [execOp, ho, Instr.makeInterface, un_run hu])
    · cases h
  · cases h
theorem does_ifc (hr : HR Fr W ρ H n w) (he : HE ρ a N E) {t : TypeId} {x : Operand} {v : V} (ho : o.op = .makeInterface t x) (h : makeIfc P t (evV E x) = some v) : Does P Fr W ρ a w o (some v) H n := (pur_ifc he ho h).does hr
def funcV (E : En) (f : Fn) (l m : List Operand) : Option V := match evL E l with | some l1 => (match evL E m with | some bs => some (.fn f l1 bs) | none => none) | none => none
theorem pur_func (he : HE ρ a N E) {f : Fn} {l m : Array Operand} {v : V} (ho : o.op = .makeFunc f l m) (h : funcV E f l.toList m.toList = some v) : Pur P ρ a o v := by
  unfold funcV at h
  split at h
  · rename_i l1 h1
    split at h
    · rename_i bs h2
      cases h
      have d1 := evL_den he h1
      have d2 := evL_den he h2
      refine pur_val (r := .func f (l.map a.eval) (m.map a.eval)) (fun w => by simp [execOp, ho, Instr.makeFunc]) ?_
      have e : ∀ (l : Array Operand), (l.toList.map a.eval).toArray = l.map a.eval := fun l => by apply Array.ext'; simp
      have := Den.fn f d1.1 d1.2 d2.1 d2.2
      rwa [e, e] at this
    · cases h
  · cases h
theorem does_func (hr : HR Fr W ρ H n w) (he : HE ρ a N E) {f : Fn} {l m : Array Operand} {v : V} (ho : o.op = .makeFunc f l m) (h : funcV E f l.toList m.toList = some v) : Does P Fr W ρ a w o (some v) H n := (pur_func he ho h).does hr
/-! ### places -/
theorem addr_lit (g f k : Nat) : (⟨g, f, none⟩ : Addr).add k = ⟨g, f + k, none⟩ := add_lit g f k
def fieldAddrV (P : Program) (t : TypeId) (v : Option V) (f : Nat) : Option V := match unT P t with
  | some (.struct fs) => (match nth fs.toList f with
    | some d => (match szT P d.type with
      | some (_ + 1) => (match v with | some (.ptr b q) => some (.ptr b (Nat.add q d.offset)) | _ => none)
      | _ => none)
    | none => none)
  | _ => none
theorem pur_fieldAddr (he : HE ρ a N E) {t : TypeId} {x : Operand} {f : Nat} {v : V} (ho : o.op = .fieldAddr t x f) (h : fieldAddrV P t (evV E x) f = some v) : Pur P ρ a o v := by
  unfold fieldAddrV at h
  split at h
  · rename_i fs hu
    split at h
    · rename_i d hd
      split at h
      · rename_i k hk
        split at h
        · rename_i b q e
          obtain ⟨g, hg, hx⟩ := den_ptr (evV_den he e)
          cases h
          rw [nth_eq] at hd
          have hd2 : fs[f]? = some d := by simpa using hd
          exact pur_val (r := .pointer (some ⟨g, q + d.offset, none⟩)) (fun w => by simp [execOp, ho, hx, Instr.fieldAt, Instr.sureAddr, fieldPlace, un_run hu, hd2, sz_run hk, addr_lit]) (.ptr _ hg)
        · cases h
      · cases h
    · cases h
  · cases h
theorem does_fieldAddr (hr : HR Fr W ρ H n w) (he : HE ρ a N E) {t : TypeId} {x : Operand} {f : Nat} {v : V} (ho : o.op = .fieldAddr t x f) (h : fieldAddrV P t (evV E x) f = some v) : Does P Fr W ρ a w o (some v) H n := (pur_fieldAddr he ho h).does hr
def indexAddrV (P : Program) (t : TypeId) (v : Option V) (i : Option Nat) : Option V := match i with
  | some i => (match unT P t with
    | some (.slice e) => (match szT P e with
      | some k => (match v with
        | some (.sl b f m _) => bif Nat.blt i m then some (.ptr b (Nat.add f (Nat.mul i k))) else none
        | some (.slo b f m _ _) => bif Nat.blt i m then some (.ptr b (Nat.add f (Nat.mul i k))) else none
        | _ => none)
      | none => none)
    | some (.array m e) => (match szT P e with
      | some k => (match v with | some (.ptr b f) => bif Nat.blt i m then some (.ptr b (Nat.add f (Nat.mul i k))) else none | _ => none)
      | none => none)
    | _ => none)
  | none => none
theorem blt_lt {i m : Nat} (h : Nat.blt i m = true) : i < m := Nat.lt_of_succ_le (Nat.le_of_ble_eq_true h)
theorem pur_indexAddr (he : HE ρ a N E) {t : TypeId} {x ix : Operand} {v : V} (ho : o.op = .indexAddr t x ix) (h : indexAddrV P t (evV E x) (natV (evV E ix)) = some v) : Pur P ρ a o v := by
  unfold indexAddrV at h
  split at h
  · rename_i i hi
    obtain ⟨kd, hix⟩ := natV_den he hi
    split at h
    · rename_i e1 hu
      split at h
      · rename_i k hk
        split at h
        · rename_i b f m c e
          obtain ⟨g, hg, hx⟩ := den_sl (evV_den he e)
          cases hb : Nat.blt i m with
          | false => rw [hb] at h; cases h
          | true =>
            rw [hb] at h; cases h
            exact pur_val (r := .pointer (some ⟨g, f + i * k, none⟩)) (fun w => by simp [execOp, ho, hx, hix, Instr.indexAt, asIntOf, un_run hu, sz_run hk, addr_lit, blt_lt hb]) (.ptr _ hg)
        · rename_i b f m c k' e
          obtain ⟨g, C, hg, hc, hz, hx⟩ := den_slo (evV_den he e)
          cases hb : Nat.blt i m with
          | false => rw [hb] at h; cases h
          | true =>
            rw [hb] at h; cases h
            exact pur_val (r := .pointer (some ⟨g, f + i * k, none⟩)) (fun w => by simp [execOp, ho, hx, hix, Instr.indexAt, asIntOf, un_run hu, sz_run hk, addr_lit, blt_lt hb]) (.ptr _ hg)
        · cases h
      · cases h
    · rename_i m e1 hu
      split at h
      · rename_i k hk
        split at h
        · rename_i b f e
          obtain ⟨g, hg, hx⟩ := den_ptr (evV_den he e)
          cases hb : Nat.blt i m with
          | false => rw [hb] at h; cases h
          | true =>
            rw [hb] at h; cases h
            exact pur_val (r := .pointer (some ⟨g, f + i * k, none⟩)) (fun w => by simp [execOp, ho, hx, hix, Instr.indexAt, Instr.sureAddr, asIntOf, un_run hu, sz_run hk, addr_lit, blt_lt hb]) (.ptr _ hg)
        · cases h
      · cases h
    · cases h
  · cases h
theorem does_indexAddr (hr : HR Fr W ρ H n w) (he : HE ρ a N E) {t : TypeId} {x ix : Operand} {v : V} (ho : o.op = .indexAddr t x ix) (h : indexAddrV P t (evV E x) (natV (evV E ix)) = some v) : Does P Fr W ρ a w o (some v) H n := (pur_indexAddr he ho h).does hr
end
end
end Go.Proofs.YtagbmfdheppmoaaGreatDoor.Vm

/-
  Operations on numbers, texts and pointers; slices of slices; structs that are built.
-/
namespace Go.Proofs.YtagbmfdheppmoaaGreatDoor.Vm
set_option linter.unusedVariables false
set_option linter.unusedSimpArgs false
set_option linter.unusedSectionVars false
open Go.RowKit Go.Proofs.YtagbmfdheppmoaaGreatDoor.Sep
noncomputable section
variable [Vl]
/-! ### the model's own operation, of what lies in no memory -/
def scal (E : En) (x : Operand) : Option Value := match evV E x with | some v => toV v | none => none
def scalV (E : En) (x : Operand) : Value := match scal E x with | some v => v | none => undef
def allSc (E : En) (l : List Operand) : Bool := List.rec (motive := fun _ => Bool) true (fun x _ ih => match scal E x with | some _ => ih | none => false) l
def fbOp (P : Program) (E : En) (o : Oper) : Option V := match o.op with
  | .select _ _ => none
  | _ => match allSc E o.op.operands.toList with
    | true => (match still P (execOp (scalV E) o) with | some (.value r) => ofV r | _ => none)
    | false => none
section
variable {P : Program} {Fr : Nat → Prop} {W w : World} {ρ : Pl} {H : T} {n : Nat} {a : Act} {N : Nat} {E : En} {o : Oper}
theorem scal_den (he : HE ρ a N E) {x : Operand} {v : Value} (h : scal E x = some v) : a.eval x = v := by
  unfold scal at h
  split at h
  · rename_i v' e; exact toV_den h (evV_den he e)
  · cases h
theorem allSc_mem {l : List Operand} (h : allSc E l = true) : ∀ x ∈ l, ∃ v, scal E x = some v := by
  induction l with
  | nil => intro x hx; cases hx
  | cons y l ih =>
    have e : allSc E (y :: l) = (match scal E y with | some _ => allSc E l | none => false) := rfl
    rw [e] at h
    split at h
    · rename_i v hv
      intro x hx
      rcases List.mem_cons.1 hx with rfl | hx
      · exact ⟨v, hv⟩
      · exact ih h x hx
    · cases h
theorem pur_fb (he : HE ρ a N E) {v : V} (h : fbOp P E o = some v) : Pur P ρ a o v := by
  unfold fbOp at h
  split at h
  · cases h
  · rename_i hs
    split at h
    · rename_i hall
      split at h
      · rename_i r e
        have c : execOp a.eval o = execOp (scalV E) o := execOp_congr o hs fun x hx => by
          obtain ⟨v, hv⟩ := allSc_mem hall x (by simpa using hx)
          rw [scal_den he hv]; simp [scalV, hv]
        exact pur_val (r := r) (fun w => by rw [c]; exact still_run e w) (ofV_den h)
      · cases h
    · cases h
theorem does_fb (hr : HR Fr W ρ H n w) (he : HE ρ a N E) {v : V} (h : fbOp P E o = some v) : Does P Fr W ρ a w o (some v) H n := (pur_fb he h).does hr
/-! ### two operands -/
def ptrEq (H : T) (b f c g : Nat) : Option Bool := match get H b with
  | .row _ => (match get H c with | .row _ => some (Nat.beq b c && Nat.beq f g) | _ => none)
  | _ => none
def eqV (P : Program) (H : T) (t : TypeId) (x y : V) : Option Bool := match unT P t with
  | some (.pointer e) => (match szT P e with
    | some (_ + 1) => (match x with
      | .ptr b f => (match y with | .ptr c g => ptrEq H b f c g | .ptr0 => some false | _ => none)
      | .ptr0 => (match y with | .ptr _ _ => some false | .ptr0 => some true | _ => none)
      | _ => none)
    | _ => none)
  | some (.slice _) => (match x with
      | .sl0 => (match y with | .sl0 => some true | .sl _ _ _ _ => some false | .slo _ _ _ _ _ => some false | .sle _ _ _ _ _ => some false | _ => none)
      | .sl _ _ _ _ => (match y with | .sl0 => some false | _ => none)
      | .slo _ _ _ _ _ => (match y with | .sl0 => some false | _ => none)
      | .sle _ _ _ _ _ => (match y with | .sl0 => some false | _ => none)
      | _ => none)
  | some (.map _ _) => (match x with
      | .map0 => (match y with | .map0 => some true | .map _ => some false | _ => none)
      | .map _ => (match y with | .map0 => some false | _ => none)
      | _ => none)
  | some (.func _ _ _) => (match x with
      | .fn0 => (match y with | .fn0 => some true | .fn _ _ _ => some false | _ => none)
      | .fn _ _ _ => (match y with | .fn0 => some false | _ => none)
      | _ => none)
  | _ => none
theorem row_at (hr : HR Fr W ρ H n w) {b g : Nat} {cs : List V} (h : get H b = .row cs) (hg : ρ b = some g) : ∃ (Cs R : List Value) (t : TypeId), w.heap[g]? = some (.cells (Cs ++ R).toArray t (0, 0)) ∧ DL ρ cs Cs ∧ (Cs ++ R).length = ρ.sz b := by
  obtain ⟨g', e, l⟩ := hr.obj b (by rw [h]; simp)
  rw [hg] at e
  have := Option.some.inj e
  subst this
  rw [h] at l
  exact l
theorem eqV_in (hr : H = T0 ∨ HR Fr W ρ H n w) {t : TypeId} {x y : V} {X Y : Value} {r : Bool} (h : eqV P H t x y = some r) (dx : Den ρ x X) (dy : Den ρ y Y) (d : Nat) : (Op.equalIn (d + 1) t X Y).run P w = .ok r w := by
  unfold eqV at h
  split at h
  · rename_i e hu
    split at h
    · rename_i k hk
      split at h
      · rename_i b f
        obtain ⟨g1, hg1, rfl⟩ := den_ptr dx
        split at h
        · rename_i c g
          obtain ⟨g2, hg2, rfl⟩ := den_ptr dy
          unfold ptrEq at h
          split at h
          · rename_i cs1 hb
            split at h
            · rename_i cs2 hc
              replace hr : HR Fr W ρ H n w := by
                rcases hr with rfl | hr
                · exact absurd (hb.symm.trans (get_T0 b)) (by simp)
                · exact hr
              obtain ⟨C1, R1, t1, e1, _⟩ := row_at hr hb hg1
              obtain ⟨C2, R2, t2, e2, _⟩ := row_at hr hc hg2
              cases h
              rw [nbeq, nbeq]
              by_cases hbc : b = c
              · subst hbc
                rw [hg1] at hg2
                have := Option.some.inj hg2
                subst this
                have e : ((⟨g1, f, none⟩ : Addr) == ⟨g1, g, none⟩) = decide (f = g) := by by_cases h : f = g <;> simp [h]
                simp [Op.equalIn, un_run hu, sz_run hk, sameAddr, e]
              · have hgg : g1 ≠ g2 := fun e => hbc (hr.inj b c g1 (by rw [hb]; simp) (by rw [hc]; simp) hg1 (e ▸ hg2))
                have ho := run_sameAddr_other (P := P) w (a := ⟨g1, f, none⟩) (b := ⟨g2, g, none⟩) (by simp [hgg]) e1 e2
                simp [Op.equalIn, un_run hu, sz_run hk, ho, hbc]
            · cases h
          · cases h
        · cases dy; cases h; simp [Op.equalIn, un_run hu]
        · cases h
      · cases dx
        split at h
        · cases dy; cases h; simp [Op.equalIn, un_run hu]
        · cases dy; cases h; simp [Op.equalIn, un_run hu]
        · cases h
      · cases h
    · cases h
  · rename_i e hu
    split at h
    · cases dx
      split at h <;> first | (cases h; done) | (cases dy; cases h; simp [Op.equalIn, un_run hu])
    · cases dx
      split at h <;> first | (cases h; done) | (cases dy; cases h; simp [Op.equalIn, un_run hu])
    · cases dx
      split at h <;> first | (cases h; done) | (cases dy; cases h; simp [Op.equalIn, un_run hu])
    · cases dx
      split at h <;> first | (cases h; done) | (cases dy; cases h; simp [Op.equalIn, un_run hu])
    · cases h
  · rename_i e1 e2 hu
    split at h
    · cases dx
      split at h <;> first | (cases h; done) | (cases dy; cases h; simp [Op.equalIn, un_run hu])
    · cases dx
      split at h <;> first | (cases h; done) | (cases dy; cases h; simp [Op.equalIn, un_run hu])
    · cases h
  · rename_i e1 e2 e3 hu
    split at h
    · cases dx
      split at h <;> first | (cases h; done) | (cases dy; cases h; simp [Op.equalIn, un_run hu])
    · cases dx
      split at h <;> first | (cases h; done) | (cases dy; cases h; simp [Op.equalIn, un_run hu])
    · cases h
  · cases h
theorem eqV_run (hr : H = T0 ∨ HR Fr W ρ H n w) {t : TypeId} {x y : V} {X Y : Value} {r : Bool} (h : eqV P H t x y = some r) (dx : Den ρ x X) (dy : Den ρ y Y) : (Op.equal t X Y).run P w = .ok r w := eqV_in hr h dx dy 9999
/-- x op y. -/
def binV (P : Program) (E : En) (H : T) (op : BinOp) (t : TypeId) (o : Oper) (x y : Option V) : Option V := match x with
  | some (.int k a) => (match y with | some (.int k' b) => intOp P op t k k' a b | _ => none)
  | some (.str p) => (match y with | some (.str q) => strOp op p q | _ => none)
  | some x => (match y with
    | some y => (match op with
      | .eql => (match eqV P H t x y with | some r => some (.bool r) | none => fbOp P E o)
      | .neq => (match eqV P H t x y with | some r => some (.bool (!r)) | none => fbOp P E o)
      | _ => fbOp P E o)
    | none => none)
  | none => none
theorem eqV_shape {t : TypeId} {x y : V} {r : Bool} (h : eqV P H t x y = some r) {X Y : Value} (dx : Den ρ x X) (dy : Den ρ y Y) :
    (∀ (op : BinOp) (u v : Operand) (w : World), (eqGuard op t u v X Y).run P w = .ok () w) ∧ (∀ op : BinOp, op = .eql ∨ op = .neq → binOp op t X Y = if op = .eql then (do pure (.bool (← Op.equal t X Y))) else (do pure (.bool (!(← Op.equal t X Y))))) := by
  unfold eqV at h
  split at h
  · split at h
    · split at h
      · cases dx; split at h <;> first | (cases h; done) | (cases dy; exact ⟨fun op u v w => by cases op <;> simp [eqGuard], fun op ho => by rcases ho with rfl | rfl <;> simp [binOp]⟩)
      · cases dx; split at h <;> first | (cases h; done) | (cases dy; exact ⟨fun op u v w => by cases op <;> simp [eqGuard], fun op ho => by rcases ho with rfl | rfl <;> simp [binOp]⟩)
      · cases h
    · cases h
  · split at h
    · cases dx; split at h <;> first | (cases h; done) | (cases dy; exact ⟨fun op u v w => by cases op <;> simp [eqGuard], fun op ho => by rcases ho with rfl | rfl <;> simp [binOp]⟩)
    · cases dx; split at h <;> first | (cases h; done) | (cases dy; exact ⟨fun op u v w => by cases op <;> simp [eqGuard], fun op ho => by rcases ho with rfl | rfl <;> simp [binOp]⟩)
    · cases dx; split at h <;> first | (cases h; done) | (cases dy; exact ⟨fun op u v w => by cases op <;> simp [eqGuard], fun op ho => by rcases ho with rfl | rfl <;> simp [binOp]⟩)
    · cases dx; split at h <;> first | (cases h; done) | (cases dy; exact ⟨fun op u v w => by cases op <;> simp [eqGuard], fun op ho => by rcases ho with rfl | rfl <;> simp [binOp]⟩)
    · cases h
  · split at h
    · cases dx; split at h <;> first | (cases h; done) | (cases dy; exact ⟨fun op u v w => by cases op <;> simp [eqGuard], fun op ho => by rcases ho with rfl | rfl <;> simp [binOp]⟩)
    · cases dx; split at h <;> first | (cases h; done) | (cases dy; exact ⟨fun op u v w => by cases op <;> simp [eqGuard], fun op ho => by rcases ho with rfl | rfl <;> simp [binOp]⟩)
    · cases h
  · split at h
    · cases dx; split at h <;> first | (cases h; done) | (cases dy; exact ⟨fun op u v w => by cases op <;> simp [eqGuard], fun op ho => by rcases ho with rfl | rfl <;> simp [binOp]⟩)
    · cases dx; split at h <;> first | (cases h; done) | (cases dy; exact ⟨fun op u v w => by cases op <;> simp [eqGuard], fun op ho => by rcases ho with rfl | rfl <;> simp [binOp]⟩)
    · cases h
  · cases h
theorem does_bin (hr : HR Fr W ρ H n w) (he : HE ρ a N E) {op : BinOp} {t u : TypeId} {x y : Operand} {v : V} (ho : o.op = .binOp op t x y u) (h : binV P E H op t o (evV E x) (evV E y) = some v) : Does P Fr W ρ a w o (some v) H n := by
  unfold binV at h
  split at h
  · rename_i k p e
    split at h
    · rename_i k' q e'
      obtain ⟨r, h1, d⟩ := intOp_run (ρ := ρ) h
      have hx := den_int (evV_den he e)
      have hy := den_int (evV_den he e')
      exact does_val hr (r := r) (by simp [execOp, ho, hx, hy, eqGuard, h1]) d
    · cases h
  · rename_i p e
    split at h
    · rename_i q e'
      obtain ⟨r, h1, d⟩ := strOp_run (P := P) (ρ := ρ) h
      have hx := den_str (evV_den he e)
      have hy := den_str (evV_den he e')
      exact does_val hr (r := r) (by simp [execOp, ho, hx, hy, eqGuard, binOp, h1]) d
    · cases h
  · rename_i x' hn1 hn2 e
    split at h
    · rename_i y' e'
      split at h
      · split at h
        · rename_i r hq
          cases h
          have dx := evV_den he e
          have dy := evV_den he e'
          obtain ⟨s1, s2⟩ := eqV_shape hq dx dy
          exact does_val hr (r := .bool r) (by simp [execOp, ho, s1, s2, eqV_run (.inr hr) hq dx dy]) (.bool _)
        · exact does_fb hr he h
      · split at h
        · rename_i r hq
          cases h
          have dx := evV_den he e
          have dy := evV_den he e'
          obtain ⟨s1, s2⟩ := eqV_shape hq dx dy
          exact does_val hr (r := .bool (!r)) (by simp [execOp, ho, s1, s2, eqV_run (.inr hr) hq dx dy]) (.bool _)
        · exact does_fb hr he h
      · exact does_fb hr he h
    · cases h
  · cases h
/-- The same, where no place in memory is looked at. -/
theorem pur_bin (he : HE ρ a N E) {op : BinOp} {t u : TypeId} {x y : Operand} {v : V} (ho : o.op = .binOp op t x y u) (h : binV P E T0 op t o (evV E x) (evV E y) = some v) : Pur P ρ a o v := by
  unfold binV at h
  split at h
  · rename_i k p e
    split at h
    · rename_i k' q e'
      obtain ⟨r, h1, d⟩ := intOp_run (ρ := ρ) h
      have hx := den_int (evV_den he e)
      have hy := den_int (evV_den he e')
      exact pur_val (r := r) (fun w => by simp [execOp, ho, hx, hy, eqGuard, h1]) d
    · cases h
  · rename_i p e
    split at h
    · rename_i q e'
      obtain ⟨r, h1, d⟩ := strOp_run (P := P) (ρ := ρ) h
      have hx := den_str (evV_den he e)
      have hy := den_str (evV_den he e')
      exact pur_val (r := r) (fun w => by simp [execOp, ho, hx, hy, eqGuard, binOp, h1]) d
    · cases h
  · rename_i x' hn1 hn2 e
    split at h
    · rename_i y' e'
      split at h
      · split at h
        · rename_i r hq
          cases h
          have dx := evV_den he e
          have dy := evV_den he e'
          obtain ⟨s1, s2⟩ := eqV_shape hq dx dy
          exact pur_val (r := .bool r) (fun w => by simp [execOp, ho, s1, s2, eqV_run (Fr := fun _ => False) (W := w) (n := 0) (.inl rfl) hq dx dy]) (.bool _)
        · exact pur_fb he h
      · split at h
        · rename_i r hq
          cases h
          have dx := evV_den he e
          have dy := evV_den he e'
          obtain ⟨s1, s2⟩ := eqV_shape hq dx dy
          exact pur_val (r := .bool (!r)) (fun w => by simp [execOp, ho, s1, s2, eqV_run (Fr := fun _ => False) (W := w) (n := 0) (.inl rfl) hq dx dy]) (.bool _)
        · exact pur_fb he h
      · exact pur_fb he h
    · cases h
  · cases h
end
end
end Go.Proofs.YtagbmfdheppmoaaGreatDoor.Vm

/-
  Operations that make, read and write memory.
-/
namespace Go.Proofs.YtagbmfdheppmoaaGreatDoor.Vm
set_option linter.unusedVariables false
set_option linter.unusedSimpArgs false
set_option linter.unusedSectionVars false
open Go.RowKit Go.Proofs.YtagbmfdheppmoaaGreatDoor.Sep
noncomputable section
variable [Vl]
def zeT (P : Program) (t : TypeId) : Option (List V) := match still P (zeroValue t) with | some z => oall of1 z.cells.toList | none => none
def oneV : V → Bool | .agg _ => false | .tup _ => false | _ => true
def allOne (l : List V) : Bool := List.rec (motive := fun _ => Bool) true (fun x _ ih => match oneV x with | true => ih | false => false) l
abbrev Out := Option (Option V × T × Nat)
/-- A new row. -/
def newV (v : V) (H : T) (n : Nat) (cs : List V) : Out := some (some v, put H n (.row cs), Nat.add n 1)
section
variable {P : Program} {Fr : Nat → Prop} {W w : World} {ρ : Pl} {H : T} {n : Nat} {a : Act} {N : Nat} {E : En} {o : Oper}
theorem oneV_den {v : V} {x : Value} (h : oneV v = true) (d : Den ρ v x) : x.oneCell' = true := by
  cases d <;> first | rfl | (simp [oneV] at h; done)
theorem allOne_den : ∀ {l : List V} {L : List Value}, allOne l = true → DL ρ l L → ∀ v ∈ L, v.oneCell' = true
  | [], L, _, d, v, hv => by rw [d.inv0] at hv; cases hv
  | x :: l, L, h, d, v, hv => by
    obtain ⟨y, Ys, rfl, d1, d2⟩ := d.inv
    have e : allOne (x :: l) = (match oneV x with | true => allOne l | false => false) := rfl
    rw [e] at h
    split at h
    · rename_i h1
      rcases List.mem_cons.1 hv with rfl | hv
      · exact oneV_den h1 d1
      · exact allOne_den h d2 v hv
    · cases h
/-- A row is made. -/
theorem new_row (hr : HR Fr W ρ H n w) {cs : List V} {Cs R : List Value} (t : TypeId) (d : DL ρ cs Cs) : HR Fr W (up ρ n w.heap.size (Cs ++ R).length) (put H n (.row cs)) (n + 1) (w.alloc (.cells (Cs ++ R).toArray t)) :=
  hr.alloc _ ⟨Cs, R, t, by show (w.heap.push _)[w.heap.size]? = _; simp, d.mono (hr.le _ _), (up_sz ..).symm⟩
def allocV (P : Program) (t : TypeId) (H : T) (n : Nat) : Out := match zeT P t with | some cs => newV (.ptr n 0) H n cs | none => none
theorem does_alloc (hr : HR Fr W ρ H n w) {t : TypeId} {v : Option V} {H' : T} {n' : Nat} (ho : o.op = .alloc t) (h : allocV P t H n = some (v, H', n')) : Does P Fr W ρ a w o v H' n' := by
  unfold allocV at h
  split at h
  · rename_i cs hz
    cases h
    unfold zeT at hz
    split at hz
    · rename_i z e
      have d := oall_den (ρ := ρ) hz
      have := new_row hr (R := []) t d
      refine ⟨_, _, hr.le _ _, this, .pointer (some ⟨w.heap.size, 0, none⟩), ?_, .ptr 0 (up_new ..)⟩
      have ez := still_run e
      simp [execOp, ho, Instr.alloc, newVar, newRow, ez]
    · cases hz
  · cases h
def boxV (x : Option V) (H : T) (n : Nat) : Out := match x with | some x => newV (.ptr n 0) H n (cellsV x) | none => none
theorem does_box (hr : HR Fr W ρ H n w) (he : HE ρ a N E) {t : TypeId} {x : Operand} {v : Option V} {H' : T} {n' : Nat} (ho : o.op = .box t x) (h : boxV (evV E x) H n = some (v, H', n')) : Does P Fr W ρ a w o v H' n' := by
  unfold boxV at h
  split at h
  · rename_i x' e
    cases h
    have := new_row hr (R := []) t (evV_den he e).cells
    refine ⟨_, _, hr.le _ _, this, .pointer (some ⟨w.heap.size, 0, none⟩), ?_, .ptr 0 (up_new ..)⟩
    simp [execOp, ho, Instr.box, newVar, newRow]
  · cases h
/-! ### reading and writing -/
theorem cell_of {g : Nat} {cs : List Value} {t : TypeId} {fz : Nat × Nat} (h : w.heap[g]? = some (.cells cs.toArray t fz)) (i : Nat) : w.cell? ⟨g, i, none⟩ = cs[i]? := by
  simp [World.cell?, h]
/-- A row that may be read. -/
def rowsV (o : Ob) : Option (List V) := match o with | .row cs => some cs | .frow cs => some cs | _ => none
theorem mem_at (hr : HR Fr W ρ H n w) {b g : Nat} {cs : List V} (h : rowsV (get H b) = some cs) (hg : ρ b = some g) : ∃ (Cs R : List Value) (t : TypeId) (fz : Nat × Nat), w.heap[g]? = some (.cells (Cs ++ R).toArray t fz) ∧ DL ρ cs Cs ∧ (Cs ++ R).length = ρ.sz b := by
  unfold rowsV at h
  split at h
  · rename_i cs' e
    cases h
    obtain ⟨Cs, R, t, h1, h2⟩ := row_at hr e hg
    exact ⟨Cs, R, t, _, h1, h2⟩
  · rename_i cs' e
    cases h
    obtain ⟨g', e', l⟩ := hr.obj b (by rw [e]; simp)
    rw [hg] at e'
    have := Option.some.inj e'
    subst this
    rw [e] at l
    exact l
  · cases h
def loadV (P : Program) (H : T) (t : TypeId) (x : Option V) : Option V := match x with
  | some (.ptr b f) => (match rowsV (get H b) with
    | some cs => (match still P (isAgg t) with
      | some false => nth cs f
      | some true => (match szT P t with | some k => bif Nat.ble (Nat.add f k) (len cs) then some (.agg (takeN k (dropN f cs))) else none | none => none)
      | none => none)
    | none => none)
  | _ => none
theorem cells_run {g f k : Nat} {Cs R : List Value} {t : TypeId} {fz : Nat × Nat} (h : w.heap[g]? = some (.cells (Cs ++ R).toArray t fz)) (hk : f + k ≤ Cs.length) : (loadCells ⟨g, f, none⟩ k).run P w = .ok ((Cs.drop f).take k).toArray w := by
  have := run_loadCells_at (P := P) g f (Cs ++ R) (cell_of h) k (by simp; omega)
  rw [this]
  congr 2
  rw [List.extract_eq_take_drop, List.drop_append_of_le_length (by omega), List.take_append_of_le_length (by simp; omega)]
  congr 1
  omega
theorem does_load (hr : HR Fr W ρ H n w) (he : HE ρ a N E) {t : TypeId} {x : Operand} {v : V} (ho : o.op = .load t x) (h : loadV P H t (evV E x) = some v) : Does P Fr W ρ a w o (some v) H n := by
  unfold loadV at h
  split at h
  · rename_i b f e
    obtain ⟨g, hg, hx⟩ := den_ptr (evV_den he e)
    split at h
    · rename_i cs hb
      obtain ⟨Cs, R, t', fz, hw, d, hsz⟩ := mem_at hr hb hg
      split at h
      · rename_i ha
        rw [nth_eq] at h
        obtain ⟨r, e1, d1⟩ := d.get h
        have hc := cell_of hw f
        rw [List.getElem?_append_left (List.getElem?_eq_some_iff.1 e1).1, e1] at hc
        exact does_val hr (r := r) (by simp [execOp, ho, hx, Instr.loadAt, Instr.sureAddr, loadVar, still_run ha, load, Sem.run, hc]) d1
      · rename_i ha
        split at h
        · rename_i k hk
          cases hb2 : Nat.ble (Nat.add f k) (len cs) with
          | false => rw [hb2] at h; cases h
          | true =>
            rw [hb2] at h
            cases h
            have h1 : f + k ≤ cs.length := by have := Nat.le_of_ble_eq_true hb2; rwa [len_eq] at this
            rw [d.1] at h1
            have hl := cells_run (P := P) hw h1
            refine does_val hr (r := .agg ((Cs.drop f).take k).toArray) (by simp [execOp, ho, hx, Instr.loadAt, Instr.sureAddr, loadVar, still_run ha, sz_run hk, hl]) ?_
            rw [takeN_eq, dropN_eq]
            exact ((d.drop f).take k).agg
        · cases h
      · cases h
    · cases h
  · cases h
/-- vs is laid over row b from f on. -/
def writeV (H : T) (b f : Nat) (vs : List V) : Option T := match get H b with
  | .row cs => (match allOne vs with
    | true => bif Nat.ble (Nat.add f (len vs)) (len cs) then some (put H b (.row (over cs f vs))) else none
    | false => none)
  | _ => none
theorem write_run (hr : HR Fr W ρ H n w) {b f g : Nat} {vs : List V} {Vs : List Value} {H' : T} (hg : ρ b = some g) (dv : DL ρ vs Vs) (h : writeV H b f vs = some H') : ∃ w', (storeCells ⟨g, f, none⟩ Vs).run P w = .ok () w' ∧ HR Fr W ρ H' n w' := by
  unfold writeV at h
  split at h
  · rename_i cs hb
    split at h
    · rename_i h1
      cases hb2 : Nat.ble (Nat.add f (len vs)) (len cs) with
      | false => rw [hb2] at h; cases h
      | true =>
        rw [hb2] at h
        cases h
        have hle : f + vs.length ≤ cs.length := by have := Nat.le_of_ble_eq_true hb2; rwa [len_eq, len_eq] at this
        obtain ⟨Cs, R, t', hw, d, hsz⟩ := row_at hr hb hg
        rw [d.1, dv.1] at hle
        have hs := run_storeCells_at (P := P) g f t' Vs 0 (Cs ++ R).toArray w hw (by simp; omega) (allOne_den h1 dv)
        refine ⟨_, hs, hr.change (by rw [hb]; simp) hg ⟨Cs.take f ++ Vs ++ Cs.drop (f + Vs.length), R, t', ?_, d.over f dv, ?_⟩ (fun k hk => heap_setRow_other _ hk) ⟨rfl, rfl, rfl, by rw [size_setRow]; exact Nat.le_refl _, Nat.le_refl _⟩⟩
        · rw [heap_setRow_self hw]
          congr 2
          simp only [Nat.add_zero]
          rw [List.take_append_of_le_length (by omega), List.drop_append_of_le_length (by omega)]
          simp
        · rw [← hsz]; simp only [List.length_append, List.length_take, List.length_drop]; omega
    · cases h
  · cases h
def storeV (P : Program) (H : T) (n : Nat) (t : TypeId) (x y : Option V) : Out := match x with
  | some (.ptr b f) => (match y with
    | some v => (match szT P t with
      | some k => bif Nat.beq (len (cellsV v)) k then (match writeV H b f (cellsV v) with | some H' => some (none, H', n) | none => none) else none
      | none => none)
    | none => none)
  | _ => none
theorem does_store (hr : HR Fr W ρ H n w) (he : HE ρ a N E) {t : TypeId} {x y : Operand} {v : Option V} {H' : T} {n' : Nat} (ho : o.op = .store t x y) (h : storeV P H n t (evV E x) (evV E y) = some (v, H', n')) : Does P Fr W ρ a w o v H' n' := by
  unfold storeV at h
  split at h
  · rename_i b f e
    obtain ⟨g, hg, hx⟩ := den_ptr (evV_den he e)
    split at h
    · rename_i v' e'
      split at h
      · rename_i k hk
        cases hb : Nat.beq (len (cellsV v')) k with
        | false => rw [hb] at h; cases h
        | true =>
          rw [hb] at h
          simp only [cond_true] at h
          split at h
          · rename_i H2 hw
            cases h
            have dv := (evV_den he e').cells
            obtain ⟨w', hs, hr'⟩ := write_run (P := P) hr hg dv hw
            refine ⟨w', ρ, Le.refl ρ, hr', ?_⟩
            have hk2 : (a.eval y).cells.size = k := by have := Nat.eq_of_beq_eq_true hb; rw [len_eq, dv.1] at this; simpa using this
            show (execOp a.eval o).run P w = .ok .skip w'
            simp [execOp, ho, hx, Instr.storeAt, Instr.sureAddr, storeVar, sz_run hk, hk2, hs]
          · cases h
      · cases h
    · cases h
  · cases h
end
end
end Go.Proofs.YtagbmfdheppmoaaGreatDoor.Vm

/-
  append: in place, or into a new row; where it is open which, the old row's number dies.
-/
namespace Go.Proofs.YtagbmfdheppmoaaGreatDoor.Vm
set_option linter.unusedVariables false
set_option linter.unusedSimpArgs false
set_option linter.unusedSectionVars false
open Go.RowKit Go.Proofs.YtagbmfdheppmoaaGreatDoor.Sep
noncomputable section
variable [Vl]
section
variable {P : Program} {Fr : Nat → Prop} {W w : World} {ρ : Pl} {H : T} {n : Nat} {a : Act} {N : Nat} {E : En} {o : Oper}
theorem get_kill (H : T) (b c : Nat) (h : get (put H b .no) c ≠ .no) : c ≠ b ∧ get (put H b .no) c = get H c := by
  have h1 : get (put H b .no) c = get H c := by
    rcases get_put H b c .no with e | ⟨_, e⟩
    · exact e
    · exact absurd e h
  refine ⟨fun e => ?_, h1⟩
  subst e
  exact h (put_same H c .no (by rw [h1] at h; exact h))
theorem HR.kill (h : HR Fr W ρ H n w) (b : Nat) : HR Fr W ρ (put H b .no) n w := by
  refine ⟨fun c hc => ?_, fun c d g hc hd e1 e2 => ?_, h.new, h.old, h.frm, h.ext⟩
  · obtain ⟨_, e⟩ := get_kill H b c hc
    rw [e] at hc ⊢
    exact h.obj c hc
  · have h1 := (get_kill H b c hc).2
    have h2 := (get_kill H b d hd).2
    exact h.inj c d g (h1 ▸ hc) (h2 ▸ hd) e1 e2
/-- A row gets a new number, and becomes another one; the old one is dead. -/
theorem HR.move (h : HR Fr W ρ H n w) {b g z : Nat} {x : Ob} {w' : World} (hbl : get H b ≠ .no) (hg : ρ b = some g) (hl : Lies (up ρ n g z) w' n g x) (ho : ∀ k, k ≠ g → w'.heap[k]? = w.heap[k]?) (he : Ext w w') :
    HR Fr W (up ρ n g z) (put (put H b .no) n x) (n + 1) w' := by
  have hnn : get H n = .no := by
    by_cases e : get H n = .no
    · exact e
    · obtain ⟨g, e1, _⟩ := h.obj n e
      rw [h.new n (Nat.le_refl _)] at e1; cases e1
  have key : ∀ c, get (put (put H b .no) n x) c ≠ .no → (c = n ∧ get (put (put H b .no) n x) c = x) ∨ (c ≠ n ∧ c ≠ b ∧ get (put (put H b .no) n x) c = get H c) := by
    intro c hc
    rcases get_put (put H b .no) n c x with e | ⟨e, e2⟩
    · have e' : get (put (put H b .no) n x) c = get (put H b .no) c := e
      rw [e'] at hc
      obtain ⟨h1, h2⟩ := get_kill H b c hc
      by_cases hcn : c = n
      · subst hcn; rw [h2, hnn] at hc; exact absurd rfl hc
      · exact .inr ⟨hcn, h1, e'.trans h2⟩
    · exact .inl ⟨e, e2⟩
  refine ⟨fun c hc => ?_, fun c d k hc hd e1 e2 => ?_, fun c hc => ?_, fun c k e => ?_, fun k hk => ⟨(h.frm k hk).1, (ho k fun e => by subst e; exact (h.old b k hg).1 hk).trans (h.frm k hk).2⟩, h.ext.trans he⟩
  · rcases key c hc with ⟨rfl, e⟩ | ⟨h1, h2, e⟩
    · exact ⟨g, up_new .., by rw [e]; exact hl⟩
    · rw [e] at hc ⊢
      obtain ⟨k, e1, l⟩ := h.obj c hc
      exact ⟨k, (h.le _ _ _ _ e1).1, (l.mono (h.le _ _) e1).at_ (ho k fun e3 => h2 (h.inj c b k hc hbl e1 (e3 ▸ hg)))⟩
  · have hx : ∀ c k, get (put (put H b .no) n x) c ≠ .no → (up ρ n g z) c = some k → (c = n ∧ k = g) ∨ (c ≠ n ∧ c ≠ b ∧ ρ c = some k ∧ get H c ≠ .no) := by
      intro c k hc e
      rcases key c hc with ⟨rfl, _⟩ | ⟨h1, h2, e3⟩
      · rw [up_new] at e; exact .inl ⟨rfl, (Option.some.inj e).symm⟩
      · rw [e3] at hc; rw [up_at, if_neg h1] at e; exact .inr ⟨h1, h2, e, hc⟩
    rcases hx c k hc e1 with ⟨rfl, rfl⟩ | ⟨h1, h2, h3, h4⟩
    · rcases hx d k hd e2 with ⟨rfl, _⟩ | ⟨_, k2, k3, k4⟩
      · rfl
      · exact absurd (h.inj d b k k4 hbl k3 hg) k2
    · rcases hx d k hd e2 with ⟨rfl, rfl⟩ | ⟨_, k2, k3, k4⟩
      · exact absurd (h.inj c b k h4 hbl h3 hg) h2
      · exact h.inj c d k h4 k4 h3 k3
  · rw [up_at, if_neg (by omega)]; exact h.new c (by omega)
  · have hs := he.size
    rw [up_at] at e
    by_cases hc : c = n
    · rw [if_pos hc] at e
      have := Option.some.inj e
      subst this
      exact ⟨(h.old b g hg).1, by have := (h.old b g hg).2; omega⟩
    · rw [if_neg hc] at e; exact ⟨(h.old c k e).1, by have := (h.old c k e).2; omega⟩
theorem HR.drew (h : HR Fr W ρ H n w) : HR Fr W ρ H n w.drew :=
  ⟨fun b hb => by obtain ⟨g, e, l⟩ := h.obj b hb; exact ⟨g, e, l.at_ rfl⟩, h.inj, h.new, h.old, h.frm, h.ext.trans ⟨rfl, rfl, rfl, Nat.le_refl _, Nat.le_succ _⟩⟩
/-! ### what is read -/
def u8s (s : List UInt8) : List V := List.rec (motive := fun _ => List V) [] (fun x _ ih => V.int .u8 (.ofNat (b8 x)) :: ih) s
def rowPart (H : T) (b f z : Nat) : Option (List V) := match rowsV (get H b) with
  | some cs => bif Nat.ble (Nat.add f z) (len cs) then some (takeN z (dropN f cs)) else none
  | none => none
def readV (H : T) (k : Nat) (y : Option V) : Option (Nat × List V) := match y with
  | some .sl0 => some (0, [])
  | some (.sle _ _ _ _ _) => some (0, [])
  | some (.sl b f m _) => (match rowPart H b f (Nat.mul m k) with | some l => some (m, l) | none => none)
  | some (.slo b f m _ _) => (match rowPart H b f (Nat.mul m k) with | some l => some (m, l) | none => none)
  | some (.str s) => bif Nat.beq k 1 then some (len s, u8s s) else none
  | _ => none
theorem rowPart_run (hr : HR Fr W ρ H n w) {b f z g : Nat} {l : List V} (hg : ρ b = some g) (h : rowPart H b f z = some l) : ∃ Ls : List Value, DL ρ l Ls ∧ Ls.length = z ∧ ∀ w', w'.heap = w.heap → (loadCells ⟨g, f, none⟩ z).run P w' = .ok Ls.toArray w' := by
  unfold rowPart at h
  split at h
  · rename_i cs hb
    cases hb2 : Nat.ble (Nat.add f z) (len cs) with
    | false => rw [hb2] at h; cases h
    | true =>
      rw [hb2] at h
      cases h
      have h1 : f + z ≤ cs.length := by have := Nat.le_of_ble_eq_true hb2; rwa [len_eq] at this
      obtain ⟨Cs, R, t', fz, hw, d, hsz⟩ := mem_at hr hb hg
      rw [d.1] at h1
      refine ⟨(Cs.drop f).take z, by rw [takeN_eq, dropN_eq]; exact (d.drop f).take z, by simp; omega, fun w' e => cells_run (P := P) (t := t') (R := R) (by rw [e]; exact hw) h1⟩
  · cases h
theorem u8s_den (ρ : Pl) : ∀ s : List UInt8, DL ρ (u8s s) (s.map fun b => Value.int .u8 (b.toNat : Int))
  | [] => .nil
  | x :: s => .cons (.int ..) (u8s_den ρ s)
theorem read_run (hr : HR Fr W ρ H n w) {k m : Nat} {y : Option V} {x : V} {Y : Value} {l : List V} (hy : y = some x) (d : Den ρ x Y) (h : readV H k y = some (m, l)) :
    ∃ Ls : List Value, DL ρ l Ls ∧ Ls.length = m * k ∧ (∀ w', (Builtin.lenOf Y).run P w' = .ok m w') ∧ ∀ w', w'.heap = w.heap → (Builtin.firstCells k m Y).run P w' = .ok Ls.toArray w' := by
  subst hy
  unfold readV at h
  split at h
  · rename_i e; cases e; cases h; cases d
    exact ⟨[], .nil, by simp, fun w' => by simp [Builtin.lenOf], fun w' _ => by simp [Builtin.firstCells]⟩
  · rename_i b o l k' z e; cases e; cases h
    obtain ⟨g, C, hg, hz, hl, rfl⟩ := den_sle d
    refine ⟨[], .nil, by simp, fun w' => by simp [Builtin.lenOf], fun w' _ => ?_⟩
    simp [Builtin.firstCells, loadCells, loadCellsFrom]
  · rename_i b f m' c e; cases e
    obtain ⟨g, hg, rfl⟩ := den_sl d
    split at h
    · rename_i l' hl
      cases h
      obtain ⟨Ls, d1, d2, d3⟩ := rowPart_run (P := P) hr hg hl
      exact ⟨Ls, d1, d2, fun w' => by simp [Builtin.lenOf], fun w' e => by simp only [Builtin.firstCells]; exact d3 w' e⟩
    · cases h
  · rename_i b f m' c k' e; cases e
    obtain ⟨g, C, hg, hc, hz, rfl⟩ := den_slo d
    split at h
    · rename_i l' hl
      cases h
      obtain ⟨Ls, d1, d2, d3⟩ := rowPart_run (P := P) hr hg hl
      exact ⟨Ls, d1, d2, fun w' => by simp [Builtin.lenOf], fun w' e => by simp only [Builtin.firstCells]; exact d3 w' e⟩
    · cases h
  · rename_i s e; cases e
    cases hk : Nat.beq k 1 with
    | false => rw [hk] at h; cases h
    | true =>
      rw [hk] at h
      cases h
      have := Nat.eq_of_beq_eq_true hk
      subst this
      have := den_str d
      subst this
      refine ⟨_, u8s_den ρ s, by rw [len_eq]; simp, fun w' => ?_, fun w' _ => ?_⟩
      · rw [len_eq]
        show Result.ok (s.toArray.size) w' = _
        simp
      · rw [len_eq]
        have e : ((⟨s.toArray⟩ : ByteArray).extract 0 s.length) = ⟨s.toArray⟩ := by
          apply ByteArray.ext
          simp
        simp only [Builtin.firstCells, e]
        show Result.ok _ w' = Result.ok _ w'
        congr 1
        simp
  · cases h
end
end
end Go.Proofs.YtagbmfdheppmoaaGreatDoor.Vm
