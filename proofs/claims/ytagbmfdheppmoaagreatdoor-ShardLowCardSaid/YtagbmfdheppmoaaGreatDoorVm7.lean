import Derived.Test.YtagbmfdheppmoaaGreatDoorVm6
/-
  Operations that make, read and write memory.
-/
namespace Go.Proofs.YtagbmfdheppmoaaGreatDoor.Vm
set_option linter.unusedVariables false
set_option linter.unusedSimpArgs false
set_option linter.unusedSectionVars false
open Go.RowKit Go.Proofs.YtagbmfdheppmoaaGreatDoor.Sep
noncomputable section
variable [Vl]
def zeT (P : Program) (t : TypeId) : Option (List V) := match still P (zeroValue t) with | some z => oall of1 z.cells.toList | none => none
def oneV : V → Bool | .agg _ => false | .tup _ => false | _ => true
def allOne (l : List V) : Bool := List.rec (motive := fun _ => Bool) true (fun x _ ih => match oneV x with | true => ih | false => false) l
abbrev Out := Option (Option V × T × Nat)
/-- A new row. -/
def newV (v : V) (H : T) (n : Nat) (cs : List V) : Out := some (some v, put H n (.row cs), Nat.add n 1)
section
variable {P : Program} {Fr : Nat → Prop} {W w : World} {ρ : Pl} {H : T} {n : Nat} {a : Act} {N : Nat} {E : En} {o : Oper}
theorem oneV_den {v : V} {x : Value} (h : oneV v = true) (d : Den ρ v x) : x.oneCell' = true := by
  cases d <;> first | rfl | (simp [oneV] at h; done)
theorem allOne_den : ∀ {l : List V} {L : List Value}, allOne l = true → DL ρ l L → ∀ v ∈ L, v.oneCell' = true
  | [], L, _, d, v, hv => by rw [d.inv0] at hv; cases hv
  | x :: l, L, h, d, v, hv => by
    obtain ⟨y, Ys, rfl, d1, d2⟩ := d.inv
    have e : allOne (x :: l) = (match oneV x with | true => allOne l | false => false) := rfl
    rw [e] at h
    split at h
    · rename_i h1
      rcases List.mem_cons.1 hv with rfl | hv
      · exact oneV_den h1 d1
      · exact allOne_den h d2 v hv
    · cases h
/-- A row is made. -/
theorem new_row (hr : HR Fr W ρ H n w) {cs : List V} {Cs R : List Value} (t : TypeId) (d : DL ρ cs Cs) : HR Fr W (up ρ n w.heap.size (Cs ++ R).length) (put H n (.row cs)) (n + 1) (w.alloc (.cells (Cs ++ R).toArray t)) :=
  hr.alloc _ ⟨Cs, R, t, by show (w.heap.push _)[w.heap.size]? = _; simp, d.mono (hr.le _ _), (up_sz ..).symm⟩
def allocV (P : Program) (t : TypeId) (H : T) (n : Nat) : Out := match zeT P t with | some cs => newV (.ptr n 0) H n cs | none => none
theorem does_alloc (hr : HR Fr W ρ H n w) {t : TypeId} {v : Option V} {H' : T} {n' : Nat} (ho : o.op = .alloc t) (h : allocV P t H n = some (v, H', n')) : Does P Fr W ρ a w o v H' n' := by
  unfold allocV at h
  split at h
  · rename_i cs hz
    cases h
    unfold zeT at hz
    split at hz
    · rename_i z e
      have d := oall_den (ρ := ρ) hz
      have := new_row hr (R := []) t d
      refine ⟨_, _, hr.le _ _, this, .pointer (some ⟨w.heap.size, 0, none⟩), ?_, .ptr 0 (up_new ..)⟩
      have ez := still_run e
      simp [execOp, ho, Instr.alloc, newVar, newRow, ez]
    · cases hz
  · cases h
def boxV (x : Option V) (H : T) (n : Nat) : Out := match x with | some x => newV (.ptr n 0) H n (cellsV x) | none => none
theorem does_box (hr : HR Fr W ρ H n w) (he : HE ρ a N E) {t : TypeId} {x : Operand} {v : Option V} {H' : T} {n' : Nat} (ho : o.op = .box t x) (h : boxV (evV E x) H n = some (v, H', n')) : Does P Fr W ρ a w o v H' n' := by
  unfold boxV at h
  split at h
  · rename_i x' e
    cases h
    have := new_row hr (R := []) t (evV_den he e).cells
    refine ⟨_, _, hr.le _ _, this, .pointer (some ⟨w.heap.size, 0, none⟩), ?_, .ptr 0 (up_new ..)⟩
    simp [execOp, ho, Instr.box, newVar, newRow]
  · cases h
/-! ### reading and writing -/
theorem cell_of {g : Nat} {cs : List Value} {t : TypeId} {fz : Nat × Nat} (h : w.heap[g]? = some (.cells cs.toArray t fz)) (i : Nat) : w.cell? ⟨g, i, none⟩ = cs[i]? := by
  simp [World.cell?, h]
/-- A row that may be read. -/
def rowsV (o : Ob) : Option (List V) := match o with | .row cs => some cs | .frow cs => some cs | _ => none
theorem mem_at (hr : HR Fr W ρ H n w) {b g : Nat} {cs : List V} (h : rowsV (get H b) = some cs) (hg : ρ b = some g) : ∃ (Cs R : List Value) (t : TypeId) (fz : Nat × Nat), w.heap[g]? = some (.cells (Cs ++ R).toArray t fz) ∧ DL ρ cs Cs ∧ (Cs ++ R).length = ρ.sz b := by
  unfold rowsV at h
  split at h
  · rename_i cs' e
    cases h
    obtain ⟨Cs, R, t, h1, h2⟩ := row_at hr e hg
    exact ⟨Cs, R, t, _, h1, h2⟩
  · rename_i cs' e
    cases h
    obtain ⟨g', e', l⟩ := hr.obj b (by rw [e]; simp)
    rw [hg] at e'
    have := Option.some.inj e'
    subst this
    rw [e] at l
    exact l
  · cases h
def loadV (P : Program) (H : T) (t : TypeId) (x : Option V) : Option V := match x with
  | some (.ptr b f) => (match rowsV (get H b) with
    | some cs => (match still P (isAgg t) with
      | some false => nth cs f
      | some true => (match szT P t with | some k => bif Nat.ble (Nat.add f k) (len cs) then some (.agg (takeN k (dropN f cs))) else none | none => none)
      | none => none)
    | none => none)
  | _ => none
theorem cells_run {g f k : Nat} {Cs R : List Value} {t : TypeId} {fz : Nat × Nat} (h : w.heap[g]? = some (.cells (Cs ++ R).toArray t fz)) (hk : f + k ≤ Cs.length) : (loadCells ⟨g, f, none⟩ k).run P w = .ok ((Cs.drop f).take k).toArray w := by
  have := run_loadCells_at (P := P) g f (Cs ++ R) (cell_of h) k (by simp; omega)
  rw [this]
  congr 2
  rw [List.extract_eq_take_drop, List.drop_append_of_le_length (by omega), List.take_append_of_le_length (by simp; omega)]
  congr 1
  omega
theorem does_load (hr : HR Fr W ρ H n w) (he : HE ρ a N E) {t : TypeId} {x : Operand} {v : V} (ho : o.op = .load t x) (h : loadV P H t (evV E x) = some v) : Does P Fr W ρ a w o (some v) H n := by
  unfold loadV at h
  split at h
  · rename_i b f e
    obtain ⟨g, hg, hx⟩ := den_ptr (evV_den he e)
    split at h
    · rename_i cs hb
      obtain ⟨Cs, R, t', fz, hw, d, hsz⟩ := mem_at hr hb hg
      split at h
      · rename_i ha
        rw [nth_eq] at h
        obtain ⟨r, e1, d1⟩ := d.get h
        have hc := cell_of hw f
        rw [List.getElem?_append_left (List.getElem?_eq_some_iff.1 e1).1, e1] at hc
        exact does_val hr (r := r) (by simp [execOp, ho, hx, Instr.loadAt, Instr.sureAddr, loadVar, still_run ha, load, Sem.run, hc]) d1
      · rename_i ha
        split at h
        · rename_i k hk
          cases hb2 : Nat.ble (Nat.add f k) (len cs) with
          | false => rw [hb2] at h; cases h
          | true =>
            rw [hb2] at h
            cases h
            have h1 : f + k ≤ cs.length := by have := Nat.le_of_ble_eq_true hb2; rwa [len_eq] at this
            rw [d.1] at h1
            have hl := cells_run (P := P) hw h1
            refine does_val hr (r := .agg ((Cs.drop f).take k).toArray) (by simp [execOp, ho, hx, Instr.loadAt, Instr.sureAddr, loadVar, still_run ha, sz_run hk, hl]) ?_
            rw [takeN_eq, dropN_eq]
            exact ((d.drop f).take k).agg
        · cases h
      · cases h
    · cases h
  · cases h
/-- vs is laid over row b from f on. -/
def writeV (H : T) (b f : Nat) (vs : List V) : Option T := match get H b with
  | .row cs => (match allOne vs with
    | true => bif Nat.ble (Nat.add f (len vs)) (len cs) then some (put H b (.row (over cs f vs))) else none
    | false => none)
  | _ => none
theorem write_run (hr : HR Fr W ρ H n w) {b f g : Nat} {vs : List V} {Vs : List Value} {H' : T} (hg : ρ b = some g) (dv : DL ρ vs Vs) (h : writeV H b f vs = some H') : ∃ w', (storeCells ⟨g, f, none⟩ Vs).run P w = .ok () w' ∧ HR Fr W ρ H' n w' := by
  unfold writeV at h
  split at h
  · rename_i cs hb
    split at h
    · rename_i h1
      cases hb2 : Nat.ble (Nat.add f (len vs)) (len cs) with
      | false => rw [hb2] at h; cases h
      | true =>
        rw [hb2] at h
        cases h
        have hle : f + vs.length ≤ cs.length := by have := Nat.le_of_ble_eq_true hb2; rwa [len_eq, len_eq] at this
        obtain ⟨Cs, R, t', hw, d, hsz⟩ := row_at hr hb hg
        rw [d.1, dv.1] at hle
        have hs := run_storeCells_at (P := P) g f t' Vs 0 (Cs ++ R).toArray w hw (by simp; omega) (allOne_den h1 dv)
        refine ⟨_, hs, hr.change (by rw [hb]; simp) hg ⟨Cs.take f ++ Vs ++ Cs.drop (f + Vs.length), R, t', ?_, d.over f dv, ?_⟩ (fun k hk => heap_setRow_other _ hk) ⟨rfl, rfl, rfl, by rw [size_setRow]; exact Nat.le_refl _, Nat.le_refl _⟩⟩
        · rw [heap_setRow_self hw]
          congr 2
          simp only [Nat.add_zero]
          rw [List.take_append_of_le_length (by omega), List.drop_append_of_le_length (by omega)]
          simp
        · rw [← hsz]; simp only [List.length_append, List.length_take, List.length_drop]; omega
    · cases h
  · cases h
def storeV (P : Program) (H : T) (n : Nat) (t : TypeId) (x y : Option V) : Out := match x with
  | some (.ptr b f) => (match y with
    | some v => (match szT P t with
      | some k => bif Nat.beq (len (cellsV v)) k then (match writeV H b f (cellsV v) with | some H' => some (none, H', n) | none => none) else none
      | none => none)
    | none => none)
  | _ => none
theorem does_store (hr : HR Fr W ρ H n w) (he : HE ρ a N E) {t : TypeId} {x y : Operand} {v : Option V} {H' : T} {n' : Nat} (ho : o.op = .store t x y) (h : storeV P H n t (evV E x) (evV E y) = some (v, H', n')) : Does P Fr W ρ a w o v H' n' := by
  unfold storeV at h
  split at h
  · rename_i b f e
    obtain ⟨g, hg, hx⟩ := den_ptr (evV_den he e)
    split at h
    · rename_i v' e'
      split at h
      · rename_i k hk
        cases hb : Nat.beq (len (cellsV v')) k with
        | false => rw [hb] at h; cases h
        | true =>
          rw [hb] at h
          simp only [cond_true] at h
          split at h
          · rename_i H2 hw
            cases h
            have dv := (evV_den he e').cells
            obtain ⟨w', hs, hr'⟩ := write_run (P := P) hr hg dv hw
            refine ⟨w', ρ, Le.refl ρ, hr', ?_⟩
            have hk2 : (a.eval y).cells.size = k := by have := Nat.eq_of_beq_eq_true hb; rw [len_eq, dv.1] at this; simpa using this
            show (execOp a.eval o).run P w = .ok .skip w'
            simp [execOp, ho, hx, Instr.storeAt, Instr.sureAddr, storeVar, sz_run hk, hk2, hs]
          · cases h
      · cases h
    · cases h
  · cases h
end
end
end Go.Proofs.YtagbmfdheppmoaaGreatDoor.Vm
