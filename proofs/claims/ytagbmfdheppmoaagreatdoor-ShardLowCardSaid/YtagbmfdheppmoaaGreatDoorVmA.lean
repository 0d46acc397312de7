import Derived.Test.YtagbmfdheppmoaaGreatDoorVm9
/-
  Slices, structs and slices that are built, texts and bytes.
-/
namespace Go.Proofs.YtagbmfdheppmoaaGreatDoor.Vm
set_option linter.unusedVariables false
set_option linter.unusedSimpArgs false
set_option linter.unusedSectionVars false
open Go.RowKit Go.Proofs.YtagbmfdheppmoaaGreatDoor.Sep
noncomputable section
variable [Vl]
def bndV (E : En) (x : Option Operand) (d : Nat) : Option Nat := match x with | none => some d | some x => natV (evV E x)
section
variable {P : Program} {Fr : Nat → Prop} {W w : World} {ρ : Pl} {H : T} {n : Nat} {a : Act} {N : Nat} {E : En} {o : Oper}
theorem bounds_run (he : HE ρ a N E) {lo hi mx : Option Operand} {sl : Bool} {ln cap l h m : Nat} (h1 : (match mx with | none => some cap | some x => natV (evV E x)) = some m) (h2 : bndV E hi ln = some h) (h3 : bndV E lo 0 = some l) (hmx : mx.isSome = true → hi.isSome = true) (hl : l ≤ h) (hh : h ≤ m) (hm : m ≤ cap) :
    (Instr.sliceBounds sl ln cap (lo.map a.eval) (hi.map a.eval) (mx.map a.eval)).run P w = .ok (l, h, m) w := by
  have lo' : ∀ {x : Operand}, lo = some x → ∃ k, a.eval x = .int k (l : Int) := fun e => by subst e; exact natV_den he h3
  have hi' : ∀ {x : Operand}, hi = some x → ∃ k, a.eval x = .int k (h : Int) := fun e => by subst e; exact natV_den he h2
  have mx' : ∀ {x : Operand}, mx = some x → ∃ k, a.eval x = .int k (m : Int) := fun e => by subst e; exact natV_den he h1
  cases mx with
  | none =>
    have : cap = m := Option.some.inj h1
    subst this
    cases hi with
    | none =>
      have : ln = h := Option.some.inj h2
      subst this
      cases lo with
      | none => have : 0 = l := Option.some.inj h3; subst this; simp [Instr.sliceBounds]
      | some x => obtain ⟨k3, e3⟩ := lo' rfl; simp [Instr.sliceBounds, run_bound e3 hl]
    | some y =>
      obtain ⟨k2, e2⟩ := hi' rfl
      cases lo with
      | none => have : 0 = l := Option.some.inj h3; subst this; simp [Instr.sliceBounds, run_bound e2 hh]
      | some x => obtain ⟨k3, e3⟩ := lo' rfl; simp [Instr.sliceBounds, run_bound e3 hl, run_bound e2 hh]
  | some z =>
    obtain ⟨k1, e1⟩ := mx' rfl
    cases hi with
    | none => simp at hmx
    | some y =>
      obtain ⟨k2, e2⟩ := hi' rfl
      cases lo with
      | none => have : 0 = l := Option.some.inj h3; subst this; simp [Instr.sliceBounds, run_bound e1 hm, run_bound e2 hh]
      | some x => obtain ⟨k3, e3⟩ := lo' rfl; simp [Instr.sliceBounds, run_bound e3 hl, run_bound e2 hh, run_bound e1 hm]
/-- The three bounds of a slice expression, if they may be. -/
def three (E : En) (lo hi mx : Option Operand) (ln cap : Nat) : Option (Nat × Nat × Nat) := match bndV E mx cap with
  | some m => (match bndV E hi ln with
    | some h => (match bndV E lo 0 with
      | some l => bif (!mx.isSome || hi.isSome) && (Nat.ble l h && (Nat.ble h m && Nat.ble m cap)) then some (l, h, m) else none
      | none => none)
    | none => none)
  | none => none
theorem three_spec {lo hi mx : Option Operand} {ln cap l h m : Nat} (e : three E lo hi mx ln cap = some (l, h, m)) : bndV E mx cap = some m ∧ bndV E hi ln = some h ∧ bndV E lo 0 = some l ∧ (mx.isSome = true → hi.isSome = true) ∧ l ≤ h ∧ h ≤ m ∧ m ≤ cap := by
  unfold three at e
  split at e
  · rename_i m' h1
    split at e
    · rename_i h' h2
      split at e
      · rename_i l' h3
        cases hb : ((!mx.isSome || hi.isSome) && (Nat.ble l' h' && (Nat.ble h' m' && Nat.ble m' cap))) with
        | false => rw [hb] at e; cases e
        | true =>
          rw [hb] at e
          cases e
          simp only [Bool.and_eq_true] at hb
          refine ⟨h1, h2, h3, fun hm => ?_, Nat.le_of_ble_eq_true hb.2.1, Nat.le_of_ble_eq_true hb.2.2.1, Nat.le_of_ble_eq_true hb.2.2.2⟩
          have := hb.1
          rw [hm] at this
          simpa using this
      · cases e
    · cases e
  · cases e
def sliceV (P : Program) (E : En) (t : TypeId) (x : Option V) (lo hi mx : Option Operand) : Option V := match unT P t with
  | some (.slice e) => (match szT P e with
    | some k => (match x with
      | some (.sl b f ln c) => (match three E lo hi mx ln c with
        | some (l, h, m) => some (.sl b (bif Nat.beq m l then f else Nat.add f (Nat.mul l k)) (Nat.sub h l) (Nat.sub m l))
        | none => none)
      | some (.slo b f ln c kk) => (match mx with
        | none => (match three E lo hi none ln c with
          | some (l, h, _) => bif Nat.beq kk k && (Nat.beq l 0 || Nat.blt l c) then some (.slo b (Nat.add f (Nat.mul l k)) (Nat.sub h l) (Nat.sub c l) k) else bif Nat.beq kk k && Nat.beq h l then some (.sle b f l k false) else none
          | none => none)
        | some z => (match three E lo hi (some z) ln c with
          | some (l, h, m) => some (.sl b (bif Nat.beq m l then f else Nat.add f (Nat.mul l k)) (Nat.sub h l) (Nat.sub m l))
          | none => none))
      | some .sl0 => (match three E lo hi mx 0 0 with | some _ => some .sl0 | none => none)
      | some (.sle b f p kk z) => (match three E lo hi mx 0 0 with | some _ => some (.sle b f p kk (match mx with | none => z | some _ => true)) | none => none)
      | _ => none)
    | none => none)
  | some (.array z e) => (match szT P e with
    | some k => (match x with
      | some (.ptr b f) => (match three E lo hi mx z z with
        | some (l, h, m) => some (.sl b (bif Nat.beq m l then f else Nat.add f (Nat.mul l k)) (Nat.sub h l) (Nat.sub m l))
        | none => none)
      | _ => none)
    | none => none)
  | some .string => (match x with
    | some (.str s) => (match mx with
      | none => (match three E lo hi none (len s) (len s) with
        | some (l, h, _) => some (.str (takeN (Nat.sub h l) (dropN l s)))
        | none => none)
      | some _ => none)
    | _ => none)
  | _ => none
theorem off_eq (g f l k m : Nat) : (if m = l then some (⟨g, f, none⟩ : Addr) else some ((⟨g, f, none⟩ : Addr).add (l * k))) = some ⟨g, bif Nat.beq m l then f else Nat.add f (Nat.mul l k), none⟩ := by
  rw [nbeq]
  by_cases h : m = l
  · simp [h]
  · simp [h, addr_lit]
theorem off_eq' (g f l k m : Nat) : (if m = l then (⟨g, f, none⟩ : Addr) else (⟨g, f, none⟩ : Addr).add (l * k)) = ⟨g, bif Nat.beq m l then f else Nat.add f (Nat.mul l k), none⟩ := by
  rw [nbeq]
  by_cases h : m = l
  · simp [h]
  · simp [h, addr_lit]
theorem pur_slice (he : HE ρ a N E) {t : TypeId} {x : Operand} {lo hi mx : Option Operand} {v : V} (ho : o.op = .slice t x lo hi mx) (h : sliceV P E t (evV E x) lo hi mx = some v) : Pur P ρ a o v := by
  unfold sliceV at h
  split at h
  · rename_i e hu
    split at h
    · rename_i k hk
      split at h
      · rename_i b f ln c hx
        obtain ⟨g, hg, ex⟩ := den_sl (evV_den he hx)
        split at h
        · rename_i l h' m e3
          obtain ⟨b1, b2, b3, b4, b5, b6, b7⟩ := three_spec e3
          cases h
          have hb := fun w => bounds_run (P := P) (w := w) (sl := true) he b1 b2 b3 b4 b5 b6 b7
          refine pur_val (r := .slice (some ⟨g, bif Nat.beq m l then f else Nat.add f (Nat.mul l k), none⟩) (h' - l) (m - l)) (fun w => ?_) (.sl _ _ _ hg)
          rw [← off_eq]
          simp [execOp, ho, Instr.sliceAt, Instr.slice, un_run hu, ex, hb, sz_run hk]
        · cases h
      · rename_i b f ln c kk hx
        obtain ⟨g, C, hg, hc, hz, ex⟩ := den_slo (evV_den he hx)
        split at h
        · split at h
          · rename_i l h' m e3
            obtain ⟨b1, b2, b3, b4, b5, b6, b7⟩ := three_spec e3
            cases hq : (Nat.beq kk k && (Nat.beq l 0 || Nat.blt l c)) with
            | false =>
              rw [hq] at h
              simp only [cond_false] at h
              cases hq2 : (Nat.beq kk k && Nat.beq h' l) with
              | false => rw [hq2] at h; cases h
              | true =>
                rw [hq2] at h
                cases h
                rw [Bool.and_eq_true] at hq2
                have := Nat.eq_of_beq_eq_true hq2.1
                subst this
                have := Nat.eq_of_beq_eq_true hq2.2
                subst this
                have hm : c = m := Option.some.inj b1
                subst hm
                have hb := fun w => bounds_run (P := P) (w := w) (sl := true) (mx := none) (cap := C) he (m := C) rfl b2 b3 (fun h => by cases h) b5 (Nat.le_trans b6 hc) (Nat.le_refl _)
                refine pur_val (r := .slice (some ⟨g, if C = h' then f else f + h' * kk, none⟩) 0 (C - h')) (fun w => ?_) (.sle _ _ false hg hz (Nat.le_trans b6 hc))
                have ea : (if C = h' then some (⟨g, f, none⟩ : Addr) else some ((⟨g, f, none⟩ : Addr).add (h' * kk))) = some ⟨g, if C = h' then f else f + h' * kk, none⟩ := by
                  by_cases hx : C = h'
                  · rw [if_pos hx, if_pos hx]
                  · rw [if_neg hx, if_neg hx, addr_lit]
                rw [← ea]
                simp only [Option.map_none] at hb
                simp [execOp, ho, Instr.sliceAt, Instr.slice, un_run hu, ex, hb, sz_run hk]
            | true =>
              rw [hq] at h
              cases h
              rw [Bool.and_eq_true] at hq
              have := Nat.eq_of_beq_eq_true hq.1
              subst this
              have hm : c = m := Option.some.inj b1
              subst hm
              have hb := fun w => bounds_run (P := P) (w := w) (sl := true) (mx := none) (cap := C) he (m := C) rfl b2 b3 (fun h => by cases h) b5 (Nat.le_trans b6 hc) (Nat.le_refl _)
              have hl0 : l = 0 ∨ l < C := by
                have := hq.2
                rw [Bool.or_eq_true] at this
                rcases this with h | h
                · exact .inl (Nat.eq_of_beq_eq_true h)
                · exact .inr (Nat.lt_of_lt_of_le (blt_lt h) hc)
              have ea : (if C = l then some (⟨g, f, none⟩ : Addr) else some ((⟨g, f, none⟩ : Addr).add (l * kk))) = some ⟨g, f + l * kk, none⟩ := by
                rcases hl0 with rfl | hlt
                · simp [addr_lit]
                · rw [if_neg (by omega), addr_lit]
              refine pur_val (r := .slice (some ⟨g, f + l * kk, none⟩) (h' - l) (C - l)) (fun w => ?_) (.slo _ _ hg (by show c - l ≤ C - l; omega) ⟨?_, hz.2⟩)
              · rw [← ea]
                simp only [Option.map_none] at hb
                simp [execOp, ho, Instr.sliceAt, Instr.slice, un_run hu, ex, hb, sz_run hk]
              · refine Eq.trans ?_ hz.1
                have : l ≤ C := by omega
                show f + l * kk + (C - l) * kk = f + C * kk
                rw [Nat.add_assoc, ← Nat.add_mul]
                rw [show l + (C - l) = C by omega]
          · cases h
        · rename_i z
          split at h
          · rename_i l h' m e3
            obtain ⟨b1, b2, b3, b4, b5, b6, b7⟩ := three_spec e3
            cases h
            have hb := fun w => bounds_run (P := P) (w := w) (sl := true) (mx := some z) (cap := C) he (m := m) b1 b2 b3 b4 b5 b6 (Nat.le_trans b7 hc)
            refine pur_val (r := .slice (some ⟨g, bif Nat.beq m l then f else Nat.add f (Nat.mul l k), none⟩) (h' - l) (m - l)) (fun w => ?_) (.sl _ _ _ hg)
            rw [← off_eq]
            simp only [Option.map_some] at hb
            simp [execOp, ho, Instr.sliceAt, Instr.slice, un_run hu, ex, hb, sz_run hk]
          · cases h
      · rename_i hx
        have ex : a.eval x = .slice none 0 0 := by have := evV_den he hx; generalize a.eval x = X at this; cases this; rfl
        split at h
        · rename_i q e3
          obtain ⟨l, h', m⟩ := q
          obtain ⟨b1, b2, b3, b4, b5, b6, b7⟩ := three_spec e3
          cases h
          have hb := fun w => bounds_run (P := P) (w := w) (sl := true) he b1 b2 b3 b4 b5 b6 b7
          have : m = 0 := by omega
          subst this
          have : h' = 0 := by omega
          subst this
          have : l = 0 := by omega
          subst this
          refine pur_val (r := .slice none 0 0) (fun w => ?_) .sl0
          simp [execOp, ho, Instr.sliceAt, Instr.slice, un_run hu, ex, hb, sz_run hk]
        · cases h
      · rename_i b f p kk z hx
        obtain ⟨g, C, hg, hz, hl, ex⟩ := den_sle (evV_den he hx)
        split at h
        · rename_i q e3
          obtain ⟨l, h', m⟩ := q
          obtain ⟨b1, b2, b3, b4, b5, b6, b7⟩ := three_spec e3
          cases h
          have : m = 0 := by omega
          subst this
          have : h' = 0 := by omega
          subst this
          have : l = 0 := by omega
          subst this
          cases mx with
          | none =>
            have hb := fun w => bounds_run (P := P) (w := w) (sl := true) (ln := 0) (mx := none) (cap := bif z then 0 else C - p) he (m := bif z then 0 else C - p) rfl b2 b3 (fun h => by cases h) (Nat.le_refl _) (Nat.zero_le _) (Nat.le_refl _)
            refine pur_val (r := .slice (some ⟨g, if C = p then f else f + p * kk, none⟩) 0 (bif z then 0 else C - p)) (fun w => ?_) (.sle _ _ z hg hz hl)
            simp only [Option.map_none] at hb
            have ea : ∀ x : Addr, x.add 0 = x := fun x => by cases x; rfl
            simp [execOp, ho, Instr.sliceAt, Instr.slice, un_run hu, ex, hb, sz_run hk, ea]
          | some y =>
            have hb := fun w => bounds_run (P := P) (w := w) (sl := true) (ln := 0) (mx := some y) (cap := bif z then 0 else C - p) he (m := 0) b1 b2 b3 b4 (Nat.le_refl _) (Nat.le_refl _) (Nat.zero_le _)
            refine pur_val (r := .slice (some ⟨g, if C = p then f else f + p * kk, none⟩) 0 (bif true then 0 else C - p)) (fun w => ?_) (.sle _ _ true hg hz hl)
            simp only [Option.map_some] at hb
            simp [execOp, ho, Instr.sliceAt, Instr.slice, un_run hu, ex, hb, sz_run hk]
        · cases h
      · cases h
    · cases h
  · rename_i z e hu
    split at h
    · rename_i k hk
      split at h
      · rename_i b f hx
        obtain ⟨g, hg, ex⟩ := den_ptr (evV_den he hx)
        split at h
        · rename_i l h' m e3
          obtain ⟨b1, b2, b3, b4, b5, b6, b7⟩ := three_spec e3
          cases h
          have hb := fun w => bounds_run (P := P) (w := w) (sl := false) he b1 b2 b3 b4 b5 b6 b7
          refine pur_val (r := .slice (some ⟨g, bif Nat.beq m l then f else Nat.add f (Nat.mul l k), none⟩) (h' - l) (m - l)) (fun w => ?_) (.sl _ _ _ hg)
          rw [← off_eq']
          simp [execOp, ho, Instr.sliceAt, Instr.sureAddr, un_run hu, ex, hb, sz_run hk]
        · cases h
      · cases h
    · cases h
  · rename_i hu
    split at h
    · rename_i s hx
      have ex := den_str (evV_den he hx)
      split at h
      · split at h
        · rename_i l h' m e3
          obtain ⟨b1, b2, b3, b4, b5, b6, b7⟩ := three_spec e3
          cases h
          have hm : len s = m := Option.some.inj b1
          subst hm
          have hb := fun w => bounds_run (P := P) (w := w) (sl := false) (ln := len s) (cap := len s) (mx := none) he rfl b2 b3 b4 b5 b6 b7
          refine pur_val (r := .string ⟨((s.drop l).take (h' - l)).toArray⟩) (fun w => ?_) (by rw [takeN_eq, dropN_eq]; exact .str _)
          have ez : (⟨s.toArray⟩ : ByteArray).size = len s := by rw [len_eq]; show s.toArray.size = _; simp
          have ee : (⟨s.toArray⟩ : ByteArray).extract l h' = ⟨((s.drop l).take (h' - l)).toArray⟩ := by
            apply ByteArray.ext
            simp [List.extract_eq_take_drop]
          simp only [Option.map_none] at hb
          simp [execOp, ho, Instr.sliceAt, Instr.slice, un_run hu, ex, ez, hb, ee]
        · cases h
      · cases h
    · cases h
  · cases h
theorem does_slice (hr : HR Fr W ρ H n w) (he : HE ρ a N E) {t : TypeId} {x : Operand} {lo hi mx : Option Operand} {v : V} (ho : o.op = .slice t x lo hi mx) (h : sliceV P E t (evV E x) lo hi mx = some v) : Does P Fr W ρ a w o (some v) H n := (pur_slice he ho h).does hr
end
end
end Go.Proofs.YtagbmfdheppmoaaGreatDoor.Vm
