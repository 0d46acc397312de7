import Derived.Test.YtagbmfdheppmoaaGreatDoorVmA
import Derived.Laws.BytesString
/-
  Structs and slices that are built; lengths; texts and bytes.
-/
namespace Go.Proofs.YtagbmfdheppmoaaGreatDoor.Vm
set_option linter.unusedVariables false
set_option linter.unusedSimpArgs false
set_option linter.unusedSectionVars false
open Go.RowKit Go.Proofs.YtagbmfdheppmoaaGreatDoor.Sep
noncomputable section
variable [Vl]
def partsV (E : En) (l : List (Nat × Operand)) : Option (List (Nat × List V)) := oall (fun p => match evV E p.2 with | some v => some (p.1, cellsV v) | none => none) l
section
variable {P : Program} {Fr : Nat → Prop} {W w : World} {ρ : Pl} {H : T} {n : Nat} {a : Act} {N : Nat} {E : En} {o : Oper}
theorem parts_den (he : HE ρ a N E) : ∀ {l : List (Nat × Operand)} {r : List (Nat × List V)}, partsV E l = some r → r.length = l.length ∧ ∀ (i : Nat) (p : Nat × List V) (q : Nat × Value), r[i]? = some p → (l.map fun p => (p.1, a.eval p.2))[i]? = some q → p.1 = q.1 ∧ DL ρ p.2 q.2.cells.toList
  | [], r, h => by
    have : [] = r := Option.some.inj h
    subst this
    exact ⟨rfl, fun i p q e => by simp at e⟩
  | x :: l, r, h => by
    obtain ⟨y, ys, h1, h2, rfl⟩ := oall_cons h
    obtain ⟨l1, l2⟩ := parts_den he (l := l) h2
    refine ⟨by simp [l1], fun i p q e1 e2 => ?_⟩
    cases i with
    | zero =>
      simp only [List.getElem?_cons_zero, Option.some.injEq, List.map_cons] at e1 e2
      subst e1
      subst e2
      split at h1
      · rename_i v hv
        cases h1
        exact ⟨rfl, (evV_den he hv).cells⟩
      · cases h1
    | succ i => exact l2 i p q (by simpa using e1) (by simpa using e2)
def buildV (P : Program) (E : En) (t : TypeId) (l : List (Nat × Operand)) : Option V := match zeT P t with
  | some z => (match partsV E l with
    | some ps => (match unT P t with
      | some (.struct fs) => (match still P (fs.mapM fun f => do pure (f.offset, ← sizeOf f.type)) with
        | some places => (match fillV (fun i => places[i]?) z ps with | some cs => some (.agg cs) | none => none)
        | none => none)
      | some (.array _ e) => (match szT P e with
        | some k => (match fillV (fun i => some (i * k, k)) z ps with | some cs => some (.agg cs) | none => none)
        | none => none)
      | _ => none)
    | none => none)
  | none => none
theorem zeT_run {t : TypeId} {cs : List V} (h : zeT P t = some cs) : ∃ z, (∀ w, (zeroValue t).run P w = .ok z w) ∧ ∀ ρ, DL ρ cs z.cells.toList := by
  unfold zeT at h
  split at h
  · rename_i z e; exact ⟨z, still_run e, fun ρ => oall_den h⟩
  · cases h
theorem pur_build (he : HE ρ a N E) {t : TypeId} {l : Array (Nat × Operand)} {v : V} (ho : o.op = .build t l) (h : buildV P E t l.toList = some v) : Pur P ρ a o v := by
  unfold buildV at h
  split at h
  · rename_i z hz
    obtain ⟨Z, z1, z2⟩ := zeT_run hz
    have el : (l.map fun x => (x.1, a.eval x.2)).toList = l.toList.map fun p => (p.1, a.eval p.2) := by simp
    split at h
    · rename_i ps hp
      obtain ⟨p1, p2⟩ := parts_den he hp
      split at h
      · rename_i fs hu
        split at h
        · rename_i places hs
          split at h
          · rename_i cs hc
            cases h
            obtain ⟨Rs, r1, r2⟩ := fillV_run (L := l.toList.map fun p => (p.1, a.eval p.2)) hc (z2 ρ) (by simp [p1]) p2
            refine pur_val (r := .agg Rs.toArray) (fun w => ?_) r2.agg
            have r1' : Instr.fill (fun x => places[x]?) Z.cells (l.toList.map fun p => (p.1, a.eval p.2)) = some Rs.toArray := by simpa using r1
            have hs' : ∀ w, Sem.run P (Array.mapM (fun f => Prod.mk f.offset <$> sizeOf f.type) fs) w = .ok places w := fun w => still_run hs w
            simp [execOp, ho, Instr.build, un_run hu, z1, hs', el, r1']
          · cases h
        · cases h
      · rename_i m e hu
        split at h
        · rename_i k hk
          split at h
          · rename_i cs hc
            cases h
            obtain ⟨Rs, r1, r2⟩ := fillV_run (L := l.toList.map fun p => (p.1, a.eval p.2)) hc (z2 ρ) (by simp [p1]) p2
            refine pur_val (r := .agg Rs.toArray) (fun w => ?_) r2.agg
            have r1' : Instr.fill (fun i => some (i * k, k)) Z.cells (l.toList.map fun p => (p.1, a.eval p.2)) = some Rs.toArray := by simpa using r1
            simp [execOp, ho, Instr.build, un_run hu, z1, sz_run hk, el, r1']
          · cases h
        · cases h
      · cases h
    · cases h
  · cases h
theorem does_build (hr : HR Fr W ρ H n w) (he : HE ρ a N E) {t : TypeId} {l : Array (Nat × Operand)} {v : V} (ho : o.op = .build t l) (h : buildV P E t l.toList = some v) : Does P Fr W ρ a w o (some v) H n := (pur_build he ho h).does hr
/-! ### slices that are built -/
def repl (n : Nat) (l : List V) : List V := Nat.rec (motive := fun _ => List V) [] (fun _ ih => app l ih) n
theorem flat_range (Z : Array Value) (k : Nat) (hk : Z.size = k) : ∀ m : Nat, ((Array.range (m * k)).map (Z[· % Z.size]!)).toList = (List.replicate m Z.toList).flatten := by
  intro m
  by_cases hk0 : k = 0
  · subst hk0
    have : Z.toList = [] := by simpa using hk
    simp [this]
  apply List.ext_getElem?
  intro i
  have hl : ((List.replicate m Z.toList).flatten).length = m * k := by simp [hk]
  by_cases hi : i < m * k
  · have e1 : ((Array.range (m * k)).map (Z[· % Z.size]!)).toList[i]? = some Z[i % k]! := by simp [hi, hk]
    rw [e1]
    have : ∀ (m i : Nat), i < m * k → ((List.replicate m Z.toList).flatten)[i]? = some Z[i % k]! := by
      intro m
      induction m with
      | zero => intro i h; omega
      | succ m ih =>
        intro i h
        rw [List.replicate_succ, List.flatten_cons]
        by_cases hik : i < k
        · rw [List.getElem?_append_left (by simpa [hk] using hik), Nat.mod_eq_of_lt hik]
          have hz : i < Z.size := by omega
          simp [hz]
        · rw [List.getElem?_append_right (by simpa [hk] using Nat.le_of_not_lt hik)]
          have e : i % k = (i - k) % k := by rw [Nat.mod_eq_sub_mod (Nat.le_of_not_lt hik)]
          have hl : Z.toList.length = k := by simpa using hk
          rw [hl, e]
          exact ih (i - k) (by rw [Nat.add_mul] at h; omega)
    rw [this m i hi]
  · rw [List.getElem?_eq_none (by simpa using hi), List.getElem?_eq_none (by rw [hl]; omega)]
theorem repl_den {ρ : Pl} {z : List V} {Z : List Value} (d : DL ρ z Z) : ∀ m, DL ρ (repl m z) (List.replicate m Z).flatten
  | 0 => .nil
  | m + 1 => by
    have e : repl (m + 1) z = app z (repl m z) := rfl
    rw [e, app_eq, List.replicate_succ, List.flatten_cons]
    exact d.app (repl_den d m)
def bslV (P : Program) (E : En) (H : T) (n : Nat) (t : TypeId) (m : Nat) (l : List (Nat × Operand)) : Out := match unT P t with
  | some (.slice e) => (match szT P e with
    | some k => (match zeT P e with
      | some z => (match partsV E l with
        | some ps => bif Nat.ble (Nat.mul m k) 16777216 && Nat.beq (len z) k then (match fillV (fun i => some (i * k, k)) (repl m z) ps with | some cs => newV (.sl n 0 m m) H n cs | none => none) else none
        | none => none)
      | none => none)
    | none => none)
  | _ => none
theorem does_bsl (hr : HR Fr W ρ H n w) (he : HE ρ a N E) {t : TypeId} {m : Nat} {l : Array (Nat × Operand)} {v : Option V} {H' : T} {n' : Nat} (ho : o.op = .buildSlice t m l) (h : bslV P E H n t m l.toList = some (v, H', n')) : Does P Fr W ρ a w o v H' n' := by
  unfold bslV at h
  split at h
  · rename_i e hu
    split at h
    · rename_i k hk
      split at h
      · rename_i z hz
        obtain ⟨Z, z1, z2⟩ := zeT_run hz
        split at h
        · rename_i ps hp
          obtain ⟨p1, p2⟩ := parts_den he hp
          cases hb : (Nat.ble (Nat.mul m k) 16777216 && Nat.beq (len z) k) with
          | false => rw [hb] at h; cases h
          | true =>
            rw [hb] at h
            simp only [cond_true] at h
            split at h
            · rename_i cs hc
              cases h
              rw [Bool.and_eq_true] at hb
              have b1 : ¬ (m * k > 2 ^ 24) := by have := Nat.le_of_ble_eq_true hb.1; show ¬ (m * k > 16777216); exact Nat.not_lt.2 this
              have b2 : Z.cells.size = k := by have := Nat.eq_of_beq_eq_true hb.2; rw [len_eq, (z2 ρ).1] at this; simpa using this
              obtain ⟨Rs, r1, r2⟩ := fillV_run (L := l.toList.map fun p => (p.1, a.eval p.2)) hc (repl_den (z2 ρ) m) (by simp [p1]) p2
              have el : (l.map fun x => (x.1, a.eval x.2)).toList = l.toList.map fun p => (p.1, a.eval p.2) := by simp
              have r1' : ∀ Y : Array Value, Y.toList = (List.replicate m Z.cells.toList).flatten → Instr.fill (fun i => some (i * k, k)) Y (l.toList.map fun p => (p.1, a.eval p.2)) = some Rs.toArray := by
                intro Y hY
                have : Y = ((List.replicate m Z.cells.toList).flatten).toArray := by apply Array.ext'; rw [hY]
                rw [this]; exact r1
              have hn := new_row hr (R := []) e r2
              refine ⟨_, _, hr.le _ _, hn, .slice (some ⟨w.heap.size, 0, none⟩) m m, ?_, .sl 0 m m (up_new ..)⟩
              have hfr := flat_range Z.cells k b2 m
              by_cases h0 : m * k = 0
              · have f1 := r1' #[] (by rw [← hfr, h0]; simp)
                have e0 : ∀ f : Nat → Value, Array.map f (Array.range 0) = #[] := fun f => by simp
                simp [execOp, ho, Instr.buildSlice, un_run hu, sz_run hk, h0, el, e0, f1, newRow]
              · have f1 := r1' ((Array.range (m * k)).map (Z.cells[· % Z.cells.size]!)) hfr
                simp [execOp, ho, Instr.buildSlice, un_run hu, sz_run hk, h0, Nat.not_lt.1 b1, z1, el, f1, newRow]
            · cases h
        · cases h
      · cases h
    · cases h
  · cases h
/-! ### lengths -/
def lenV (P : Program) (H : T) (t : TypeId) (x : Option V) : Option V := match unT P t with
  | some .string => (match x with | some (.str s) => some (.int .i64 (.ofNat (len s))) | _ => none)
  | some (.array m _) => (match x with | some _ => some (.int .i64 (.ofNat m)) | none => none)
  | some (.slice _) => (match x with
    | some (.sl _ _ m _) => some (.int .i64 (.ofNat m))
    | some (.slo _ _ m _ _) => some (.int .i64 (.ofNat m))
    | some .sl0 => some (.int .i64 (.ofNat 0))
    | some (.sle _ _ _ _ _) => some (.int .i64 (.ofNat 0))
    | _ => none)
  | some (.map _ _) => (match x with
    | some .map0 => some (.int .i64 (.ofNat 0))
    | some (.map b) => (match get H b with | .map es _ => some (.int .i64 (.ofNat (len es))) | _ => none)
    | _ => none)
  | _ => none
theorem does_len (hr : HR Fr W ρ H n w) (he : HE ρ a N E) {t : TypeId} {x : Operand} {v : V} (ho : o.op = .call { callee := .builtin .len, args := #[x], argTypes := #[t] }) (h : lenV P H t (evV E x) = some v) : Does P Fr W ρ a w o (some v) H n := by
  unfold lenV at h
  split at h
  · rename_i hu
    split at h
    · rename_i s hx
      have ex := den_str (evV_den he hx)
      cases h
      refine does_val hr (r := .int .i64 ((len s : Nat) : Int)) ?_ (.int ..)
      have ez : (⟨s.toArray⟩ : ByteArray).size = len s := by rw [len_eq]; show s.toArray.size = _; simp
      simp [execOp, ho, resolve, invoke, builtin, Builtin.len_, un_run hu, ex, ez, goInt]
    · cases h
  · rename_i m e hu
    split at h
    · cases h
      exact does_val hr (r := .int .i64 (m : Int)) (by simp [execOp, ho, resolve, invoke, builtin, Builtin.len_, un_run hu, goInt]) (.int ..)
    · cases h
  · rename_i e hu
    split at h
    · rename_i b f m c hx
      obtain ⟨g, hg, ex⟩ := den_sl (evV_den he hx)
      cases h
      exact does_val hr (r := .int .i64 (m : Int)) (by simp [execOp, ho, resolve, invoke, builtin, Builtin.len_, un_run hu, ex, goInt]) (.int ..)
    · rename_i b f m c k hx
      obtain ⟨g, C, hg, hc, hz, ex⟩ := den_slo (evV_den he hx)
      cases h
      exact does_val hr (r := .int .i64 (m : Int)) (by simp [execOp, ho, resolve, invoke, builtin, Builtin.len_, un_run hu, ex, goInt]) (.int ..)
    · rename_i hx
      have ex : a.eval x = .slice none 0 0 := by have := evV_den he hx; generalize a.eval x = X at this; cases this; rfl
      cases h
      exact does_val hr (r := .int .i64 0) (by simp [execOp, ho, resolve, invoke, builtin, Builtin.len_, un_run hu, ex, goInt]) (.int ..)
    · rename_i b o' l k' z hx
      obtain ⟨g, C, hg, hz, hl, ex⟩ := den_sle (evV_den he hx)
      cases h
      exact does_val hr (r := .int .i64 0) (by simp [execOp, ho, resolve, invoke, builtin, Builtin.len_, un_run hu, ex, goInt]) (.int ..)
    · cases h
  · rename_i k e hu
    split at h
    · rename_i hx
      have ex : a.eval x = .map none := by have := evV_den he hx; generalize a.eval x = X at this; cases this; rfl
      cases h
      exact does_val hr (r := .int .i64 0) (by simp [execOp, ho, resolve, invoke, builtin, Builtin.len_, un_run hu, ex, goInt]) (.int ..)
    · rename_i b hx
      have ex : ∃ g, ρ b = some g ∧ a.eval x = .map (some g) := by have := evV_den he hx; generalize a.eval x = X at this; cases this with | map h => exact ⟨_, h, rfl⟩
      obtain ⟨g, hg, ex⟩ := ex
      split at h
      · rename_i es c hb
        cases h
        obtain ⟨g', e', l⟩ := hr.obj b (by rw [hb]; simp)
        rw [hg] at e'
        have := Option.some.inj e'
        subst this
        rw [hb] at l
        obtain ⟨Es, l1, l2, _⟩ := l
        refine does_val hr (r := .int .i64 ((len es : Nat) : Int)) ?_ (.int ..)
        rw [len_eq, ← l2]
        simp [execOp, ho, resolve, invoke, builtin, Builtin.len_, un_run hu, ex, goInt, getObj, Sem.run, l1]
      · cases h
    · cases h
  · cases h
theorem pur_len (he : HE ρ a N E) {t : TypeId} {x : Operand} {v : V} (ho : o.op = .call { callee := .builtin .len, args := #[x], argTypes := #[t] }) (h : lenV P T0 t (evV E x) = some v) : Pur P ρ a o v := by
  unfold lenV at h
  split at h
  · rename_i hu
    split at h
    · rename_i s hx
      have ex := den_str (evV_den he hx)
      cases h
      refine pur_val (r := .int .i64 ((len s : Nat) : Int)) (fun w => ?_) (.int ..)
      have ez : (⟨s.toArray⟩ : ByteArray).size = len s := by rw [len_eq]; show s.toArray.size = _; simp
      simp [execOp, ho, resolve, invoke, builtin, Builtin.len_, un_run hu, ex, ez, goInt]
    · cases h
  · rename_i m e hu
    split at h
    · cases h
      exact pur_val (r := .int .i64 (m : Int)) (fun w => by simp [execOp, ho, resolve, invoke, builtin, Builtin.len_, un_run hu, goInt]) (.int ..)
    · cases h
  · rename_i e hu
    split at h
    · rename_i b f m c hx
      obtain ⟨g, hg, ex⟩ := den_sl (evV_den he hx)
      cases h
      exact pur_val (r := .int .i64 (m : Int)) (fun w => by simp [execOp, ho, resolve, invoke, builtin, Builtin.len_, un_run hu, ex, goInt]) (.int ..)
    · rename_i b f m c k hx
      obtain ⟨g, C, hg, hc, hz, ex⟩ := den_slo (evV_den he hx)
      cases h
      exact pur_val (r := .int .i64 (m : Int)) (fun w => by simp [execOp, ho, resolve, invoke, builtin, Builtin.len_, un_run hu, ex, goInt]) (.int ..)
    · rename_i hx
      have ex : a.eval x = .slice none 0 0 := by have := evV_den he hx; generalize a.eval x = X at this; cases this; rfl
      cases h
      exact pur_val (r := .int .i64 0) (fun w => by simp [execOp, ho, resolve, invoke, builtin, Builtin.len_, un_run hu, ex, goInt]) (.int ..)
    · rename_i b o' l k' z hx
      obtain ⟨g, C, hg, hz, hl, ex⟩ := den_sle (evV_den he hx)
      cases h
      exact pur_val (r := .int .i64 0) (fun w => by simp [execOp, ho, resolve, invoke, builtin, Builtin.len_, un_run hu, ex, goInt]) (.int ..)
    · cases h
  · rename_i k e hu
    split at h
    · rename_i hx
      have ex : a.eval x = .map none := by have := evV_den he hx; generalize a.eval x = X at this; cases this; rfl
      cases h
      exact pur_val (r := .int .i64 0) (fun w => by simp [execOp, ho, resolve, invoke, builtin, Builtin.len_, un_run hu, ex, goInt]) (.int ..)
    · rename_i b hx
      have ex : ∃ g, ρ b = some g ∧ a.eval x = .map (some g) := by have := evV_den he hx; generalize a.eval x = X at this; cases this with | map h => exact ⟨_, h, rfl⟩
      obtain ⟨g, hg, ex⟩ := ex
      split at h
      · rename_i es c hb
        exact absurd (hb.symm.trans (get_T0 b)) (by simp)
      · cases h
    · cases h
  · cases h
end
end
end Go.Proofs.YtagbmfdheppmoaaGreatDoor.Vm
