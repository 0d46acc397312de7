import Derived.Test.YtagbmfdheppmoaaGreatDoorVm5
import Derived.LaidEql
/-
  Operations on numbers, texts and pointers; slices of slices; structs that are built.
-/
namespace Go.Proofs.YtagbmfdheppmoaaGreatDoor.Vm
set_option linter.unusedVariables false
set_option linter.unusedSimpArgs false
set_option linter.unusedSectionVars false
open Go.RowKit Go.Proofs.YtagbmfdheppmoaaGreatDoor.Sep
noncomputable section
variable [Vl]
/-! ### the model's own operation, of what lies in no memory -/
def scal (E : En) (x : Operand) : Option Value := match evV E x with | some v => toV v | none => none
def scalV (E : En) (x : Operand) : Value := match scal E x with | some v => v | none => undef
def allSc (E : En) (l : List Operand) : Bool := List.rec (motive := fun _ => Bool) true (fun x _ ih => match scal E x with | some _ => ih | none => false) l
def fbOp (P : Program) (E : En) (o : Oper) : Option V := match o.op with
  | .select _ _ => none
  | _ => match allSc E o.op.operands.toList with
    | true => (match still P (execOp (scalV E) o) with | some (.value r) => ofV r | _ => none)
    | false => none
section
variable {P : Program} {Fr : Nat → Prop} {W w : World} {ρ : Pl} {H : T} {n : Nat} {a : Act} {N : Nat} {E : En} {o : Oper}
theorem scal_den (he : HE ρ a N E) {x : Operand} {v : Value} (h : scal E x = some v) : a.eval x = v := by
  unfold scal at h
  split at h
  · rename_i v' e; exact toV_den h (evV_den he e)
  · cases h
theorem allSc_mem {l : List Operand} (h : allSc E l = true) : ∀ x ∈ l, ∃ v, scal E x = some v := by
  induction l with
  | nil => intro x hx; cases hx
  | cons y l ih =>
    have e : allSc E (y :: l) = (match scal E y with | some _ => allSc E l | none => false) := rfl
    rw [e] at h
    split at h
    · rename_i v hv
      intro x hx
      rcases List.mem_cons.1 hx with rfl | hx
      · exact ⟨v, hv⟩
      · exact ih h x hx
    · cases h
theorem pur_fb (he : HE ρ a N E) {v : V} (h : fbOp P E o = some v) : Pur P ρ a o v := by
  unfold fbOp at h
  split at h
  · cases h
  · rename_i hs
    split at h
    · rename_i hall
      split at h
      · rename_i r e
        have c : execOp a.eval o = execOp (scalV E) o := execOp_congr o hs fun x hx => by
          obtain ⟨v, hv⟩ := allSc_mem hall x (by simpa using hx)
          rw [scal_den he hv]; simp [scalV, hv]
        exact pur_val (r := r) (fun w => by rw [c]; exact still_run e w) (ofV_den h)
      · cases h
    · cases h
theorem does_fb (hr : HR Fr W ρ H n w) (he : HE ρ a N E) {v : V} (h : fbOp P E o = some v) : Does P Fr W ρ a w o (some v) H n := (pur_fb he h).does hr
/-! ### two operands -/
def ptrEq (H : T) (b f c g : Nat) : Option Bool := match get H b with
  | .row _ => (match get H c with | .row _ => some (Nat.beq b c && Nat.beq f g) | _ => none)
  | _ => none
def eqV (P : Program) (H : T) (t : TypeId) (x y : V) : Option Bool := match unT P t with
  | some (.pointer e) => (match szT P e with
    | some (_ + 1) => (match x with
      | .ptr b f => (match y with | .ptr c g => ptrEq H b f c g | .ptr0 => some false | _ => none)
      | .ptr0 => (match y with | .ptr _ _ => some false | .ptr0 => some true | _ => none)
      | _ => none)
    | _ => none)
  | some (.slice _) => (match x with
      | .sl0 => (match y with | .sl0 => some true | .sl _ _ _ _ => some false | .slo _ _ _ _ _ => some false | .sle _ _ _ _ _ => some false | _ => none)
      | .sl _ _ _ _ => (match y with | .sl0 => some false | _ => none)
      | .slo _ _ _ _ _ => (match y with | .sl0 => some false | _ => none)
      | .sle _ _ _ _ _ => (match y with | .sl0 => some false | _ => none)
      | _ => none)
  | some (.map _ _) => (match x with
      | .map0 => (match y with | .map0 => some true | .map _ => some false | _ => none)
      | .map _ => (match y with | .map0 => some false | _ => none)
      | _ => none)
  | some (.func _ _ _) => (match x with
      | .fn0 => (match y with | .fn0 => some true | .fn _ _ _ => some false | _ => none)
      | .fn _ _ _ => (match y with | .fn0 => some false | _ => none)
      | _ => none)
  | _ => none
theorem row_at (hr : HR Fr W ρ H n w) {b g : Nat} {cs : List V} (h : get H b = .row cs) (hg : ρ b = some g) : ∃ (Cs R : List Value) (t : TypeId), w.heap[g]? = some (.cells (Cs ++ R).toArray t (0, 0)) ∧ DL ρ cs Cs ∧ (Cs ++ R).length = ρ.sz b := by
  obtain ⟨g', e, l⟩ := hr.obj b (by rw [h]; simp)
  rw [hg] at e
  have := Option.some.inj e
  subst this
  rw [h] at l
  exact l
theorem eqV_in (hr : H = T0 ∨ HR Fr W ρ H n w) {t : TypeId} {x y : V} {X Y : Value} {r : Bool} (h : eqV P H t x y = some r) (dx : Den ρ x X) (dy : Den ρ y Y) (d : Nat) : (Op.equalIn (d + 1) t X Y).run P w = .ok r w := by
  unfold eqV at h
  split at h
  · rename_i e hu
    split at h
    · rename_i k hk
      split at h
      · rename_i b f
        obtain ⟨g1, hg1, rfl⟩ := den_ptr dx
        split at h
        · rename_i c g
          obtain ⟨g2, hg2, rfl⟩ := den_ptr dy
          unfold ptrEq at h
          split at h
          · rename_i cs1 hb
            split at h
            · rename_i cs2 hc
              replace hr : HR Fr W ρ H n w := by
                rcases hr with rfl | hr
                · exact absurd (hb.symm.trans (get_T0 b)) (by simp)
                · exact hr
              obtain ⟨C1, R1, t1, e1, _⟩ := row_at hr hb hg1
              obtain ⟨C2, R2, t2, e2, _⟩ := row_at hr hc hg2
              cases h
              rw [nbeq, nbeq]
              by_cases hbc : b = c
              · subst hbc
                rw [hg1] at hg2
                have := Option.some.inj hg2
                subst this
                have e : ((⟨g1, f, none⟩ : Addr) == ⟨g1, g, none⟩) = decide (f = g) := by by_cases h : f = g <;> simp [h]
                simp [Op.equalIn, un_run hu, sz_run hk, sameAddr, e]
              · have hgg : g1 ≠ g2 := fun e => hbc (hr.inj b c g1 (by rw [hb]; simp) (by rw [hc]; simp) hg1 (e ▸ hg2))
                have ho := run_sameAddr_other (P := P) w (a := ⟨g1, f, none⟩) (b := ⟨g2, g, none⟩) (by simp [hgg]) e1 e2
                simp [Op.equalIn, un_run hu, sz_run hk, ho, hbc]
            · cases h
          · cases h
        · cases dy; cases h; simp [Op.equalIn, un_run hu]
        · cases h
      · cases dx
        split at h
        · cases dy; cases h; simp [Op.equalIn, un_run hu]
        · cases dy; cases h; simp [Op.equalIn, un_run hu]
        · cases h
      · cases h
    · cases h
  · rename_i e hu
    split at h
    · cases dx
      split at h <;> first | (cases h; done) | (cases dy; cases h; simp [Op.equalIn, un_run hu])
    · cases dx
      split at h <;> first | (cases h; done) | (cases dy; cases h; simp [Op.equalIn, un_run hu])
    · cases dx
      split at h <;> first | (cases h; done) | (cases dy; cases h; simp [Op.equalIn, un_run hu])
    · cases dx
      split at h <;> first | (cases h; done) | (cases dy; cases h; simp [Op.equalIn, un_run hu])
    · cases h
  · rename_i e1 e2 hu
    split at h
    · cases dx
      split at h <;> first | (cases h; done) | (cases dy; cases h; simp [Op.equalIn, un_run hu])
    · cases dx
      split at h <;> first | (cases h; done) | (cases dy; cases h; simp [Op.equalIn, un_run hu])
    · cases h
  · rename_i e1 e2 e3 hu
    split at h
    · cases dx
      split at h <;> first | (cases h; done) | (cases dy; cases h; simp [Op.equalIn, un_run hu])
    · cases dx
      split at h <;> first | (cases h; done) | (cases dy; cases h; simp [Op.equalIn, un_run hu])
    · cases h
  · cases h
theorem eqV_run (hr : H = T0 ∨ HR Fr W ρ H n w) {t : TypeId} {x y : V} {X Y : Value} {r : Bool} (h : eqV P H t x y = some r) (dx : Den ρ x X) (dy : Den ρ y Y) : (Op.equal t X Y).run P w = .ok r w := eqV_in hr h dx dy 9999
/-- x op y. -/
def binV (P : Program) (E : En) (H : T) (op : BinOp) (t : TypeId) (o : Oper) (x y : Option V) : Option V := match x with
  | some (.int k a) => (match y with | some (.int k' b) => intOp P op t k k' a b | _ => none)
  | some (.str p) => (match y with | some (.str q) => strOp op p q | _ => none)
  | some x => (match y with
    | some y => (match op with
      | .eql => (match eqV P H t x y with | some r => some (.bool r) | none => fbOp P E o)
      | .neq => (match eqV P H t x y with | some r => some (.bool (!r)) | none => fbOp P E o)
      | _ => fbOp P E o)
    | none => none)
  | none => none
theorem eqV_shape {t : TypeId} {x y : V} {r : Bool} (h : eqV P H t x y = some r) {X Y : Value} (dx : Den ρ x X) (dy : Den ρ y Y) :
    (∀ (op : BinOp) (u v : Operand) (w : World), (eqGuard op t u v X Y).run P w = .ok () w) ∧ (∀ op : BinOp, op = .eql ∨ op = .neq → binOp op t X Y = if op = .eql then (do pure (.bool (← Op.equal t X Y))) else (do pure (.bool (!(← Op.equal t X Y))))) := by
  unfold eqV at h
  split at h
  · split at h
    · split at h
      · cases dx; split at h <;> first | (cases h; done) | (cases dy; exact ⟨fun op u v w => by cases op <;> simp [eqGuard], fun op ho => by rcases ho with rfl | rfl <;> simp [binOp]⟩)
      · cases dx; split at h <;> first | (cases h; done) | (cases dy; exact ⟨fun op u v w => by cases op <;> simp [eqGuard], fun op ho => by rcases ho with rfl | rfl <;> simp [binOp]⟩)
      · cases h
    · cases h
  · split at h
    · cases dx; split at h <;> first | (cases h; done) | (cases dy; exact ⟨fun op u v w => by cases op <;> simp [eqGuard], fun op ho => by rcases ho with rfl | rfl <;> simp [binOp]⟩)
    · cases dx; split at h <;> first | (cases h; done) | (cases dy; exact ⟨fun op u v w => by cases op <;> simp [eqGuard], fun op ho => by rcases ho with rfl | rfl <;> simp [binOp]⟩)
    · cases dx; split at h <;> first | (cases h; done) | (cases dy; exact ⟨fun op u v w => by cases op <;> simp [eqGuard], fun op ho => by rcases ho with rfl | rfl <;> simp [binOp]⟩)
    · cases dx; split at h <;> first | (cases h; done) | (cases dy; exact ⟨fun op u v w => by cases op <;> simp [eqGuard], fun op ho => by rcases ho with rfl | rfl <;> simp [binOp]⟩)
    · cases h
  · split at h
    · cases dx; split at h <;> first | (cases h; done) | (cases dy; exact ⟨fun op u v w => by cases op <;> simp [eqGuard], fun op ho => by rcases ho with rfl | rfl <;> simp [binOp]⟩)
    · cases dx; split at h <;> first | (cases h; done) | (cases dy; exact ⟨fun op u v w => by cases op <;> simp [eqGuard], fun op ho => by rcases ho with rfl | rfl <;> simp [binOp]⟩)
    · cases h
  · split at h
    · cases dx; split at h <;> first | (cases h; done) | (cases dy; exact ⟨fun op u v w => by cases op <;> simp [eqGuard], fun op ho => by rcases ho with rfl | rfl <;> simp [binOp]⟩)
    · cases dx; split at h <;> first | (cases h; done) | (cases dy; exact ⟨fun op u v w => by cases op <;> simp [eqGuard], fun op ho => by rcases ho with rfl | rfl <;> simp [binOp]⟩)
    · cases h
  · cases h
theorem does_bin (hr : HR Fr W ρ H n w) (he : HE ρ a N E) {op : BinOp} {t u : TypeId} {x y : Operand} {v : V} (ho : o.op = .binOp op t x y u) (h : binV P E H op t o (evV E x) (evV E y) = some v) : Does P Fr W ρ a w o (some v) H n := by
  unfold binV at h
  split at h
  · rename_i k p e
    split at h
    · rename_i k' q e'
      obtain ⟨r, h1, d⟩ := intOp_run (ρ := ρ) h
      have hx := den_int (evV_den he e)
      have hy := den_int (evV_den he e')
      exact does_val hr (r := r) (by simp [execOp, ho, hx, hy, eqGuard, h1]) d
    · cases h
  · rename_i p e
    split at h
    · rename_i q e'
      obtain ⟨r, h1, d⟩ := strOp_run (P := P) (ρ := ρ) h
      have hx := den_str (evV_den he e)
      have hy := den_str (evV_den he e')
      exact does_val hr (r := r) (by simp [execOp, ho, hx, hy, eqGuard, binOp, h1]) d
    · cases h
  · rename_i x' hn1 hn2 e
    split at h
    · rename_i y' e'
      split at h
      · split at h
        · rename_i r hq
          cases h
          have dx := evV_den he e
          have dy := evV_den he e'
          obtain ⟨s1, s2⟩ := eqV_shape hq dx dy
          exact does_val hr (r := .bool r) (by simp [execOp, ho, s1, s2, eqV_run (.inr hr) hq dx dy]) (.bool _)
        · exact does_fb hr he h
      · split at h
        · rename_i r hq
          cases h
          have dx := evV_den he e
          have dy := evV_den he e'
          obtain ⟨s1, s2⟩ := eqV_shape hq dx dy
          exact does_val hr (r := .bool (!r)) (by simp [execOp, ho, s1, s2, eqV_run (.inr hr) hq dx dy]) (.bool _)
        · exact does_fb hr he h
      · exact does_fb hr he h
    · cases h
  · cases h
/-- The same, where no place in memory is looked at. -/
theorem pur_bin (he : HE ρ a N E) {op : BinOp} {t u : TypeId} {x y : Operand} {v : V} (ho : o.op = .binOp op t x y u) (h : binV P E T0 op t o (evV E x) (evV E y) = some v) : Pur P ρ a o v := by
  unfold binV at h
  split at h
  · rename_i k p e
    split at h
    · rename_i k' q e'
      obtain ⟨r, h1, d⟩ := intOp_run (ρ := ρ) h
      have hx := den_int (evV_den he e)
      have hy := den_int (evV_den he e')
      exact pur_val (r := r) (fun w => by simp [execOp, ho, hx, hy, eqGuard, h1]) d
    · cases h
  · rename_i p e
    split at h
    · rename_i q e'
      obtain ⟨r, h1, d⟩ := strOp_run (P := P) (ρ := ρ) h
      have hx := den_str (evV_den he e)
      have hy := den_str (evV_den he e')
      exact pur_val (r := r) (fun w => by simp [execOp, ho, hx, hy, eqGuard, binOp, h1]) d
    · cases h
  · rename_i x' hn1 hn2 e
    split at h
    · rename_i y' e'
      split at h
      · split at h
        · rename_i r hq
          cases h
          have dx := evV_den he e
          have dy := evV_den he e'
          obtain ⟨s1, s2⟩ := eqV_shape hq dx dy
          exact pur_val (r := .bool r) (fun w => by simp [execOp, ho, s1, s2, eqV_run (Fr := fun _ => False) (W := w) (n := 0) (.inl rfl) hq dx dy]) (.bool _)
        · exact pur_fb he h
      · split at h
        · rename_i r hq
          cases h
          have dx := evV_den he e
          have dy := evV_den he e'
          obtain ⟨s1, s2⟩ := eqV_shape hq dx dy
          exact pur_val (r := .bool (!r)) (fun w => by simp [execOp, ho, s1, s2, eqV_run (Fr := fun _ => False) (W := w) (n := 0) (.inl rfl) hq dx dy]) (.bool _)
        · exact pur_fb he h
      · exact pur_fb he h
    · cases h
  · cases h
end
end
end Go.Proofs.YtagbmfdheppmoaaGreatDoor.Vm
