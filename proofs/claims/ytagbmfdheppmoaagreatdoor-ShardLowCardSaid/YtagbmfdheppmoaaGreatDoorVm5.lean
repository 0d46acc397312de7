import Derived.Test.YtagbmfdheppmoaaGreatDoorVm4
/-
  Operations that turn no memory: moves, parts, places, slices.
-/
namespace Go.Proofs.YtagbmfdheppmoaaGreatDoor.Vm
set_option linter.unusedVariables false
set_option linter.unusedSimpArgs false
set_option linter.unusedSectionVars false
open Go.RowKit Go.Proofs.YtagbmfdheppmoaaGreatDoor.Sep
noncomputable section
variable [Vl]
/-- What an operation does: what it yields (none: nothing), and the memory behind it. -/
def Does (P : Program) (Fr : Nat → Prop) (W : World) (ρ : Pl) (a : Act) (w : World) (o : Oper) (v : Option V) (H' : T) (n' : Nat) : Prop :=
  ∃ w' ρ', Le ρ ρ' ∧ HR Fr W ρ' H' n' w' ∧ match v with
    | some v => ∃ r, (execOp a.eval o).run P w = .ok (.value r) w' ∧ Den ρ' v r
    | none => (execOp a.eval o).run P w = .ok .skip w'
def unT (P : Program) (t : TypeId) : Option TypeDesc := still P (underlying t)
def szT (P : Program) (t : TypeId) : Option Nat := still P (sizeOf t)
def natV : Option V → Option Nat | some (.int _ (.ofNat i)) => some i | _ => none
section
variable {P : Program} {Fr : Nat → Prop} {W w : World} {ρ : Pl} {H : T} {n : Nat} {a : Act} {N : Nat} {E : En} {o : Oper}
theorem does_val (hr : HR Fr W ρ H n w) {v : V} {r : Value} (h : (execOp a.eval o).run P w = .ok (.value r) w) (d : Den ρ v r) : Does P Fr W ρ a w o (some v) H n :=
  ⟨w, ρ, Le.refl ρ, hr, r, h, d⟩
/-- An operation that looks at no world yields that. -/
def Pur (P : Program) (ρ : Pl) (a : Act) (o : Oper) (v : V) : Prop := ∃ r, Den ρ v r ∧ ∀ w, (execOp a.eval o).run P w = .ok (.value r) w
theorem pur_val {v : V} {r : Value} (h : ∀ w, (execOp a.eval o).run P w = .ok (.value r) w) (d : Den ρ v r) : Pur P ρ a o v := ⟨r, d, h⟩
theorem Pur.does {v : V} (h : Pur P ρ a o v) (hr : HR Fr W ρ H n w) : Does P Fr W ρ a w o (some v) H n := by obtain ⟨r, d, h⟩ := h; exact does_val hr (h w) d
theorem un_run {t : TypeId} {d : TypeDesc} (h : unT P t = some d) (w : World) : (underlying t).run P w = .ok d w := still_run h w
theorem sz_run {t : TypeId} {k : Nat} (h : szT P t = some k) (w : World) : (sizeOf t).run P w = .ok k w := still_run h w
theorem den_int' {k : IntKind} {i : Int} {v : Value} (d : Den ρ (.int k i) v) : v = .int k i := by cases d; rfl
theorem den_bool {b : Bool} {v : Value} (d : Den ρ (.bool b) v) : v = .bool b := by cases d; rfl
theorem natV_den (he : HE ρ a N E) {x : Operand} {i : Nat} (h : natV (evV E x) = some i) : ∃ k, a.eval x = .int k (i : Int) := by
  unfold natV at h
  split at h
  · rename_i k j e
    have : j = i := Option.some.inj h
    subst this
    exact ⟨k, den_int' (evV_den he e)⟩
  · cases h
theorem den_int {k : IntKind} {i : Int} {v : Value} (d : Den ρ (.int k i) v) : v = .int k i := by cases d; rfl
theorem den_ptr {b f : Nat} {v : Value} (d : Den ρ (.ptr b f) v) : ∃ g, ρ b = some g ∧ v = .pointer (some ⟨g, f, none⟩) := by cases d with | ptr o h => exact ⟨_, h, rfl⟩
theorem den_sl {b f m c : Nat} {v : Value} (d : Den ρ (.sl b f m c) v) : ∃ g, ρ b = some g ∧ v = .slice (some ⟨g, f, none⟩) m c := by cases d with | sl o n c h => exact ⟨_, h, rfl⟩
theorem den_slo {b f m c k : Nat} {v : Value} (d : Den ρ (.slo b f m c k) v) : ∃ g C, ρ b = some g ∧ c ≤ C ∧ (f + C * k = ρ.sz b ∧ 0 < k) ∧ v = .slice (some ⟨g, f, none⟩) m C := by cases d with | slo o n h hc hz => exact ⟨_, _, h, hc, hz, rfl⟩
theorem den_sle {b o l k : Nat} {z : Bool} {v : Value} (d : Den ρ (.sle b o l k z) v) : ∃ g C, ρ b = some g ∧ (o + C * k = ρ.sz b ∧ 0 < k) ∧ l ≤ C ∧ v = .slice (some ⟨g, if C = l then o else o + l * k, none⟩) 0 (bif z then 0 else C - l) := by cases d with | sle o l z h hz hl => exact ⟨_, _, h, hz, hl, rfl⟩
theorem den_str {s : List UInt8} {v : Value} (d : Den ρ (.str s) v) : v = .string ⟨s.toArray⟩ := by cases d; rfl
/-! ### moves -/
theorem pur_move (he : HE ρ a N E) {x : Operand} {v : V} (ho : o.op = .move x ∨ o.op = .assign x) (h : evV E x = some v) : Pur P ρ a o v :=
  pur_val (r := a.eval x) (fun w => by rcases ho with ho | ho <;> simp [execOp, ho]) (evV_den he h)
theorem does_move (hr : HR Fr W ρ H n w) (he : HE ρ a N E) {x : Operand} {v : V} (ho : o.op = .move x ∨ o.op = .assign x) (h : evV E x = some v) : Does P Fr W ρ a w o (some v) H n := (pur_move he ho h).does hr
def pickV (E : En) (c x y : Operand) : Option V := match evV E c with | some (.bool t) => evV E (bif t then x else y) | _ => none
theorem pur_pick (he : HE ρ a N E) {c x y : Operand} {v : V} (ho : o.op = .pick c x y) (h : pickV E c x y = some v) : Pur P ρ a o v := by
  unfold pickV at h
  split at h
  · rename_i t e
    have hc : a.eval c = .bool t := den_bool (evV_den he e)
    refine pur_val (r := a.eval (bif t then x else y)) (fun w => ?_) (evV_den he h)
    cases t <;> simp [execOp, ho, hc, asBool]
  · cases h
theorem does_pick (hr : HR Fr W ρ H n w) (he : HE ρ a N E) {c x y : Operand} {v : V} (ho : o.op = .pick c x y) (h : pickV E c x y = some v) : Does P Fr W ρ a w o (some v) H n := (pur_pick he ho h).does hr
def nilV (v : Option V) : Option V := match v with | some (.ptr b f) => some (.ptr b f) | some (.fn (.func g) l1 bs) => some (.fn (.func g) l1 bs) | _ => none
theorem pur_nil (he : HE ρ a N E) {x : Operand} {v : V} (ho : o.op = .nilCheck x) (h : nilV (evV E x) = some v) : Pur P ρ a o v := by
  unfold nilV at h
  split at h
  · rename_i b f e
    have d := evV_den he e
    obtain ⟨g, hg, hx⟩ := den_ptr d
    cases h
    exact pur_val (r := .pointer (some ⟨g, f, none⟩)) (fun w => by simp [execOp, ho, hx]) (hx ▸ d)
  · rename_i g l1 bs e
    have d := evV_den he e
    cases h
    have hx : ∃ As Bs, a.eval x = .func (.func g) As Bs := by generalize a.eval x = X at d; cases d; exact ⟨_, _, rfl⟩
    obtain ⟨As, Bs, hx⟩ := hx
    exact pur_val (r := .func (.func g) As Bs) (fun w => by simp [execOp, ho, hx]) (hx ▸ d)
  · cases h
theorem does_nil (hr : HR Fr W ρ H n w) (he : HE ρ a N E) {x : Operand} {v : V} (ho : o.op = .nilCheck x) (h : nilV (evV E x) = some v) : Does P Fr W ρ a w o (some v) H n := (pur_nil he ho h).does hr
/-! ### parts -/
def extractV (v : Option V) (i : Nat) : Option V := match v with | some (.tup l) => nth l i | _ => none
theorem pur_extract (he : HE ρ a N E) {x : Operand} {i : Nat} {v : V} (ho : o.op = .extract x i) (h : extractV (evV E x) i = some v) : Pur P ρ a o v := by
  unfold extractV at h
  split at h
  · rename_i l e
    obtain ⟨As, hx, d⟩ := (evV_den he e).ofTup
    rw [nth_eq] at h
    obtain ⟨r, e1, d1⟩ := d.get h
    exact pur_val (r := r) (fun w => by simp [execOp, ho, hx, Instr.extract, e1]) d1
  · cases h
theorem does_extract (hr : HR Fr W ρ H n w) (he : HE ρ a N E) {x : Operand} {i : Nat} {v : V} (ho : o.op = .extract x i) (h : extractV (evV E x) i = some v) : Does P Fr W ρ a w o (some v) H n := (pur_extract he ho h).does hr
def fieldV (P : Program) (t : TypeId) (v : Option V) (f : Nat) : Option V := match unT P t with
  | some (.struct fs) => (match nth fs.toList f with
    | some d => (match v with | some (.agg l) => partV P d.type l d.offset | _ => none)
    | none => none)
  | _ => none
theorem pur_field (he : HE ρ a N E) {t : TypeId} {x : Operand} {f : Nat} {v : V} (ho : o.op = .field t x f) (h : fieldV P t (evV E x) f = some v) : Pur P ρ a o v := by
  unfold fieldV at h
  split at h
  · rename_i fs hu
    split at h
    · rename_i d hd
      split at h
      · rename_i l e
        obtain ⟨As, hx, dl⟩ := (evV_den he e).ofAgg
        rw [nth_eq] at hd
        obtain ⟨r, d1, hp⟩ := partV_run h dl
        have hd2 : fs[f]? = some d := by simpa using hd
        exact pur_val (r := r) (fun w => by simp [execOp, ho, hx, Instr.field, un_run hu, hd2, asAgg, hp]) d1
      · cases h
    · cases h
  · cases h
theorem does_field (hr : HR Fr W ρ H n w) (he : HE ρ a N E) {t : TypeId} {x : Operand} {f : Nat} {v : V} (ho : o.op = .field t x f) (h : fieldV P t (evV E x) f = some v) : Does P Fr W ρ a w o (some v) H n := (pur_field he ho h).does hr
def indexV (P : Program) (t : TypeId) (v : Option V) (i : Option Nat) : Option V := match i with
  | some i => (match v with
    | some (.agg l) => (match unT P t with
      | some (.array m e) => (match szT P e with | some k => bif Nat.blt i m then partV P e l (Nat.mul i k) else none | none => none)
      | _ => none)
    | some (.str s) => (match unT P t with
      | some .string => (match nth s i with | some b => some (.int .u8 (.ofNat (b8 b))) | none => none)
      | _ => none)
    | _ => none)
  | none => none
theorem pur_index (he : HE ρ a N E) {t : TypeId} {x ix : Operand} {v : V} (ho : o.op = .index t x ix) (h : indexV P t (evV E x) (natV (evV E ix)) = some v) : Pur P ρ a o v := by
  unfold indexV at h
  split at h
  · rename_i i hi
    obtain ⟨kd, hix⟩ := natV_den he hi
    split at h
    · rename_i l e
      obtain ⟨As, hx, dl⟩ := (evV_den he e).ofAgg
      split at h
      · rename_i m e1 hu
        split at h
        · rename_i k hk
          cases hb : Nat.blt i m with
          | false => rw [hb] at h; cases h
          | true =>
            rw [hb] at h
            obtain ⟨r, d1, hp⟩ := partV_run h dl
            have hlt : i < m := Nat.lt_of_succ_le (Nat.le_of_ble_eq_true hb)
            exact pur_val (r := r) (fun w => by simp [execOp, ho, hx, hix, Instr.index, asIntOf, un_run hu, sz_run hk, hlt]; rw [show Sem.run P (part e1 As.toArray (i * k)) w = _ from hp w]; rfl) d1
        · cases h
      · cases h
    · rename_i s e
      have hx := den_str (evV_den he e)
      split at h
      · rename_i hu
        split at h
        · rename_i b hb
          rw [nth_eq] at hb
          cases h
          refine pur_val (r := .int .u8 (b8 b : Nat)) (fun w => ?_) (.int ..)
          obtain ⟨h1, h2⟩ := List.getElem?_eq_some_iff.1 hb
          have h3 : i < (⟨s.toArray⟩ : ByteArray).size := by show i < s.toArray.size; simpa using h1
          have h4 : (⟨s.toArray⟩ : ByteArray)[i] = b := h2
          simp [execOp, ho, hx, hix, Instr.index, asIntOf, un_run hu, h3, h4]
          rfl
        · cases h
      · cases h
    · cases h
  · cases h
theorem does_index (hr : HR Fr W ρ H n w) (he : HE ρ a N E) {t : TypeId} {x ix : Operand} {v : V} (ho : o.op = .index t x ix) (h : indexV P t (evV E x) (natV (evV E ix)) = some v) : Does P Fr W ρ a w o (some v) H n := (pur_index he ho h).does hr
def makeIfc (P : Program) (t : TypeId) (v : Option V) : Option V := match unT P t with | some (.interface _) => none | some _ => (match v with | some v => some (.ifc t v) | none => none) | none => none
theorem pur_ifc (he : HE ρ a N E) {t : TypeId} {x : Operand} {v : V} (ho : o.op = .makeInterface t x) (h : makeIfc P t (evV E x) = some v) : Pur P ρ a o v := by
  unfold makeIfc at h
  split at h
  · cases h
  · rename_i d hn hu
    split at h
    · rename_i v' e
      cases h
      refine pur_val (r := .iface t (a.eval x)) (fun w => ?_) (.ifc t (evV_den he e))
      cases d <;> first | (exact absurd rfl (fun e => hn _ e)) | (simp [execOp, ho, Instr.makeInterface, un_run hu])
    · cases h
  · cases h
theorem does_ifc (hr : HR Fr W ρ H n w) (he : HE ρ a N E) {t : TypeId} {x : Operand} {v : V} (ho : o.op = .makeInterface t x) (h : makeIfc P t (evV E x) = some v) : Does P Fr W ρ a w o (some v) H n := (pur_ifc he ho h).does hr
def funcV (E : En) (f : Fn) (l m : List Operand) : Option V := match evL E l with | some l1 => (match evL E m with | some bs => some (.fn f l1 bs) | none => none) | none => none
theorem pur_func (he : HE ρ a N E) {f : Fn} {l m : Array Operand} {v : V} (ho : o.op = .makeFunc f l m) (h : funcV E f l.toList m.toList = some v) : Pur P ρ a o v := by
  unfold funcV at h
  split at h
  · rename_i l1 h1
    split at h
    · rename_i bs h2
      cases h
      have d1 := evL_den he h1
      have d2 := evL_den he h2
      refine pur_val (r := .func f (l.map a.eval) (m.map a.eval)) (fun w => by simp [execOp, ho, Instr.makeFunc]) ?_
      have e : ∀ (l : Array Operand), (l.toList.map a.eval).toArray = l.map a.eval := fun l => by apply Array.ext'; simp
      have := Den.fn f d1.1 d1.2 d2.1 d2.2
      rwa [e, e] at this
    · cases h
  · cases h
theorem does_func (hr : HR Fr W ρ H n w) (he : HE ρ a N E) {f : Fn} {l m : Array Operand} {v : V} (ho : o.op = .makeFunc f l m) (h : funcV E f l.toList m.toList = some v) : Does P Fr W ρ a w o (some v) H n := (pur_func he ho h).does hr
/-! ### places -/
theorem addr_lit (g f k : Nat) : (⟨g, f, none⟩ : Addr).add k = ⟨g, f + k, none⟩ := add_lit g f k
def fieldAddrV (P : Program) (t : TypeId) (v : Option V) (f : Nat) : Option V := match unT P t with
  | some (.struct fs) => (match nth fs.toList f with
    | some d => (match szT P d.type with
      | some (_ + 1) => (match v with | some (.ptr b q) => some (.ptr b (Nat.add q d.offset)) | _ => none)
      | _ => none)
    | none => none)
  | _ => none
theorem pur_fieldAddr (he : HE ρ a N E) {t : TypeId} {x : Operand} {f : Nat} {v : V} (ho : o.op = .fieldAddr t x f) (h : fieldAddrV P t (evV E x) f = some v) : Pur P ρ a o v := by
  unfold fieldAddrV at h
  split at h
  · rename_i fs hu
    split at h
    · rename_i d hd
      split at h
      · rename_i k hk
        split at h
        · rename_i b q e
          obtain ⟨g, hg, hx⟩ := den_ptr (evV_den he e)
          cases h
          rw [nth_eq] at hd
          have hd2 : fs[f]? = some d := by simpa using hd
          exact pur_val (r := .pointer (some ⟨g, q + d.offset, none⟩)) (fun w => by simp [execOp, ho, hx, Instr.fieldAt, Instr.sureAddr, fieldPlace, un_run hu, hd2, sz_run hk, addr_lit]) (.ptr _ hg)
        · cases h
      · cases h
    · cases h
  · cases h
theorem does_fieldAddr (hr : HR Fr W ρ H n w) (he : HE ρ a N E) {t : TypeId} {x : Operand} {f : Nat} {v : V} (ho : o.op = .fieldAddr t x f) (h : fieldAddrV P t (evV E x) f = some v) : Does P Fr W ρ a w o (some v) H n := (pur_fieldAddr he ho h).does hr
def indexAddrV (P : Program) (t : TypeId) (v : Option V) (i : Option Nat) : Option V := match i with
  | some i => (match unT P t with
    | some (.slice e) => (match szT P e with
      | some k => (match v with
        | some (.sl b f m _) => bif Nat.blt i m then some (.ptr b (Nat.add f (Nat.mul i k))) else none
        | some (.slo b f m _ _) => bif Nat.blt i m then some (.ptr b (Nat.add f (Nat.mul i k))) else none
        | _ => none)
      | none => none)
    | some (.array m e) => (match szT P e with
      | some k => (match v with | some (.ptr b f) => bif Nat.blt i m then some (.ptr b (Nat.add f (Nat.mul i k))) else none | _ => none)
      | none => none)
    | _ => none)
  | none => none
theorem blt_lt {i m : Nat} (h : Nat.blt i m = true) : i < m := Nat.lt_of_succ_le (Nat.le_of_ble_eq_true h)
theorem pur_indexAddr (he : HE ρ a N E) {t : TypeId} {x ix : Operand} {v : V} (ho : o.op = .indexAddr t x ix) (h : indexAddrV P t (evV E x) (natV (evV E ix)) = some v) : Pur P ρ a o v := by
  unfold indexAddrV at h
  split at h
  · rename_i i hi
    obtain ⟨kd, hix⟩ := natV_den he hi
    split at h
    · rename_i e1 hu
      split at h
      · rename_i k hk
        split at h
        · rename_i b f m c e
          obtain ⟨g, hg, hx⟩ := den_sl (evV_den he e)
          cases hb : Nat.blt i m with
          | false => rw [hb] at h; cases h
          | true =>
            rw [hb] at h; cases h
            exact pur_val (r := .pointer (some ⟨g, f + i * k, none⟩)) (fun w => by simp [execOp, ho, hx, hix, Instr.indexAt, asIntOf, un_run hu, sz_run hk, addr_lit, blt_lt hb]) (.ptr _ hg)
        · rename_i b f m c k' e
          obtain ⟨g, C, hg, hc, hz, hx⟩ := den_slo (evV_den he e)
          cases hb : Nat.blt i m with
          | false => rw [hb] at h; cases h
          | true =>
            rw [hb] at h; cases h
            exact pur_val (r := .pointer (some ⟨g, f + i * k, none⟩)) (fun w => by simp [execOp, ho, hx, hix, Instr.indexAt, asIntOf, un_run hu, sz_run hk, addr_lit, blt_lt hb]) (.ptr _ hg)
        · cases h
      · cases h
    · rename_i m e1 hu
      split at h
      · rename_i k hk
        split at h
        · rename_i b f e
          obtain ⟨g, hg, hx⟩ := den_ptr (evV_den he e)
          cases hb : Nat.blt i m with
          | false => rw [hb] at h; cases h
          | true =>
            rw [hb] at h; cases h
            exact pur_val (r := .pointer (some ⟨g, f + i * k, none⟩)) (fun w => by simp [execOp, ho, hx, hix, Instr.indexAt, Instr.sureAddr, asIntOf, un_run hu, sz_run hk, addr_lit, blt_lt hb]) (.ptr _ hg)
        · cases h
      · cases h
    · cases h
  · cases h
theorem does_indexAddr (hr : HR Fr W ρ H n w) (he : HE ρ a N E) {t : TypeId} {x ix : Operand} {v : V} (ho : o.op = .indexAddr t x ix) (h : indexAddrV P t (evV E x) (natV (evV E ix)) = some v) : Does P Fr W ρ a w o (some v) H n := (pur_indexAddr he ho h).does hr
end
end
end Go.Proofs.YtagbmfdheppmoaaGreatDoor.Vm
