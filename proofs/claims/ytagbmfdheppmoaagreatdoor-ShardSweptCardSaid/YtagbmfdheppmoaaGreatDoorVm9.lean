import Derived.Test.YtagbmfdheppmoaaGreatDoorVm5
import Derived.Laws.BytesString
/-
  append, as the machine does it.
-/
namespace Go.Proofs.YtagbmfdheppmoaaGreatDoor.Vm
set_option linter.unusedVariables false
set_option linter.unusedSimpArgs false
set_option linter.unusedSectionVars false
open Go.RowKit Go.Proofs.YtagbmfdheppmoaaGreatDoor.Sep
noncomputable section
variable [Vl]
section
variable {P : Program} {Fr : Nat → Prop} {W w : World} {ρ : Pl} {H : T} {n : Nat} {a : Act} {N : Nat} {E : En} {o : Oper}
/-- The second argument is a slice or a text. -/
def isSrc (P : Program) (u : TypeId) : Bool := match unT P u with | some (.slice _) => true | some .string => true | _ => false
theorem append_in {t u e : TypeId} {i : TypeInfo} (ty : TypeId) (ht : unT P t = some (.slice e)) (hu : isSrc P u = true) (hi : P.info? e = some i) {g f m c m2 : Nat} {Y : Value} {news : List Value} {w' : World}
    (hl : (Builtin.lenOf Y).run P w = .ok m2 w) (hf : (Builtin.firstCells i.size m2 Y).run P w = .ok news.toArray w) (hroom : m + m2 ≤ c) (hst : (storeCells ⟨g, f + m * i.size, none⟩ news).run P w = .ok () w') :
    (Builtin.append_ #[t, u] ty #[.slice (some ⟨g, f, none⟩) m c, Y]).run P w = .ok (.slice (some ⟨g, f, none⟩) (m + m2) c) w' := by
  unfold isSrc at hu
  split at hu
  · rename_i e2 h2
    simp [Builtin.append_, un_run ht, un_run h2, sizeOf, typeInfo, hi, hl, hroom, hf, addr_lit, hst]
  · rename_i h2
    simp [Builtin.append_, un_run ht, un_run h2, sizeOf, typeInfo, hi, hl, hroom, hf, addr_lit, hst]
  · cases hu
theorem append_up {t u e : TypeId} {i : TypeInfo} {z : Value} (ty : TypeId) (ht : unT P t = some (.slice e)) (hu : isSrc P u = true) (hi : P.info? e = some i) (hz : i.zero = some z) {A : Option Addr} {m c m2 : Nat} {Y : Value} {olds news : List Value}
    (hl : (Builtin.lenOf Y).run P w = .ok m2 w) (hf : (Builtin.firstCells i.size m2 Y).run P w.drew = .ok news.toArray w.drew) (ho : (Builtin.firstCells i.size m (.slice A m c)).run P w.drew = .ok olds.toArray w.drew)
    (hg : c < m + m2) (h63 : m + m2 ≤ 9223372036854775807) (hfit : Builtin.nextslicecap (m + m2) c * i.bytes ≤ 281474976710656) :
    (Builtin.append_ #[t, u] ty #[.slice A m c, Y]).run P w =
      .ok (.slice (some ⟨w.heap.size, 0, none⟩) (m + m2) (grownCap w (m + m2) c e)) (w.drew.alloc (.cells (olds ++ news ++ (Builtin.zeroCells z.cells (grownCap w (m + m2) c e - (m + m2))).toList).toArray e)) := by
  have hn : ¬ (m + m2 ≤ c) := by omega
  have h63' : ¬ (9223372036854775807 < ((m : Int) + (m2 : Int))) := by omega
  have h48' : ¬ (281474976710656 < Builtin.nextslicecap (m + m2) c * i.bytes) := by omega
  have ea : (olds ++ news ++ (Builtin.zeroCells z.cells (grownCap w (m + m2) c e - (m + m2))).toList).toArray = olds.toArray ++ news.toArray ++ Builtin.zeroCells z.cells (grownCap w (m + m2) c e - (m + m2)) := by apply Array.ext'; simp
  rw [ea]
  unfold isSrc at hu
  split at hu
  · rename_i e2 h2
    simp [Builtin.append_, un_run ht, un_run h2, sizeOf, typeInfo, zeroValue, hi, hz, hl, hn, h63', h48', Question.forced, hf, ho, newRow, grownCap]
    congr 2
    apply Array.ext'
    simp
  · rename_i h2
    simp [Builtin.append_, un_run ht, un_run h2, sizeOf, typeInfo, zeroValue, hi, hz, hl, hn, h63', h48', Question.forced, hf, ho, newRow, grownCap]
    congr 2
    apply Array.ext'
    simp
  · cases hu
def fits (i : TypeInfo) (k : Nat) : Bool := match i.zero with
  | some z => Nat.blt 0 i.size && Nat.beq (len z.cells.toList) i.size && (Nat.ble k 9223372036854775807 && Nat.ble (Nat.mul k i.bytes) 140737488355328)
  | none => false
def grown (H : T) (n m m2 k : Nat) (olds vs : List V) : Out := some (some (.slo n 0 (Nat.add m m2) (Nat.add m m2) k), put H n (.row (app olds vs)), Nat.add n 1)
def appendV (P : Program) (H : T) (n : Nat) (t u : TypeId) (x y : Option V) : Out := match unT P t with
  | some (.slice e) => (match isSrc P u with
    | true => (match P.info? e with
      | some i => (match readV H i.size y with
        | some (m2, vs) => (match x with
          | some .sl0 => bif Nat.beq m2 0 then some (some .sl0, H, n) else bif fits i m2 then grown H n 0 m2 i.size [] vs else none
          | some (.sl b f m c) => bif Nat.ble (Nat.add m m2) c then (match writeV H b (Nat.add f (Nat.mul m i.size)) vs with | some H' => some (some (.sl b f (Nat.add m m2) c), H', n) | none => none)
            else (match rowPart H b f (Nat.mul m i.size) with | some olds => bif fits i (Nat.add m m2) then grown H n m m2 i.size olds vs else none | none => none)
          | some (.slo b f m c k) => bif Nat.beq k i.size then (bif Nat.ble (Nat.add m m2) c then (match writeV H b (Nat.add f (Nat.mul m k)) vs with | some H' => some (some (.slo b f (Nat.add m m2) c k), H', n) | none => none)
            else bif Nat.beq f 0 then (match get H b with | .row _ => (match rowPart H b 0 (Nat.mul m k) with | some olds => bif fits i (Nat.add m m2) && allOne vs then grown (put H b .no) n m m2 k olds vs else none | none => none) | _ => none) else none) else none
          | some (.sle b f l k z) => bif Nat.beq m2 0 then some (some (.sle b f l k z), H, n) else (match z with | true => bif fits i m2 then grown H n 0 m2 i.size [] vs else none | false => none)
          | _ => none)
        | none => none)
      | none => none)
    | false => none)
  | _ => none
theorem fits_spec {i : TypeInfo} {m m2 c : Nat} (h : fits i (m + m2) = true) (hg : c < m + m2) : ∃ z, i.zero = some z ∧ 0 < i.size ∧ z.cells.size = i.size ∧ m + m2 ≤ 9223372036854775807 ∧ Builtin.nextslicecap (m + m2) c * i.bytes ≤ 281474976710656 := by
  unfold fits at h
  split at h
  · rename_i z e
    simp only [Bool.and_eq_true, len_eq] at h
    refine ⟨z, e, blt_lt h.1.1, ?_, Nat.le_of_ble_eq_true h.2.1, growslice_fits hg (Nat.le_of_ble_eq_true h.2.2)⟩
    have := Nat.eq_of_beq_eq_true h.1.2
    simpa using this
  · cases h
/-- append that grows. -/
theorem grow_run (hr : HR Fr W ρ H n w) {t u e : TypeId} {i : TypeInfo} (ty : TypeId) (ht : unT P t = some (.slice e)) (hu : isSrc P u = true) (hi : P.info? e = some i) {A : Option Addr} {m c m2 : Nat} {Y : Value} {olds vs : List V} {Olds News : List Value}
    (hl : (Builtin.lenOf Y).run P w = .ok m2 w) (hf : (Builtin.firstCells i.size m2 Y).run P w.drew = .ok News.toArray w.drew) (ho : (Builtin.firstCells i.size m (.slice A m c)).run P w.drew = .ok Olds.toArray w.drew)
    (d1 : DL ρ olds Olds) (d2 : DL ρ vs News) (l1 : Olds.length = m * i.size) (l2 : News.length = m2 * i.size) (hg : c < m + m2) (hfit : fits i (m + m2) = true) :
    ∃ w' ρ' r, Le ρ ρ' ∧ HR Fr W ρ' (put H n (.row (app olds vs))) (n + 1) w' ∧ (Builtin.append_ #[t, u] ty #[.slice A m c, Y]).run P w = .ok r w' ∧ Den ρ' (.slo n 0 (m + m2) (m + m2) i.size) r := by
  obtain ⟨z, hz, hpos, hzs, h63, hn⟩ := fits_spec hfit hg
  have hrun := append_up ty ht hu hi hz hl hf ho hg h63 hn
  have hge := grownCap_ge w (m + m2) c e
  rw [app_eq]
  have hr2 := new_row hr.drew (R := (Builtin.zeroCells z.cells (grownCap w (m + m2) c e - (m + m2))).toList) e (d1.app d2)
  refine ⟨_, _, _, hr.drew.le _ _, hr2, hrun, .slo 0 _ (up_new ..) hge ?_⟩
  rw [up_sz]
  simp only [List.length_append, l1, l2, Array.length_toList, size_zeroCells, hzs, Nat.zero_add]
  refine ⟨?_, hpos⟩
  rw [← Nat.add_mul, ← Nat.add_mul]
  congr 1
  omega
theorem does_append (hr : HR Fr W ρ H n w) (he : HE ρ a N E) {t u : TypeId} {x y : Operand} {v : Option V} {H' : T} {n' : Nat} (ho : o.op = .call { callee := .builtin .append, args := #[x, y], argTypes := #[t, u] }) (h : appendV P H n t u (evV E x) (evV E y) = some (v, H', n')) : Does P Fr W ρ a w o v H' n' := by
  have hrun : ∀ {r : Value} {w' : World}, (Builtin.append_ #[t, u] o.type #[a.eval x, a.eval y]).run P w = .ok r w' → (execOp a.eval o).run P w = .ok (.value r) w' := fun h => by simp [execOp, ho, resolve, invoke, builtin, h]
  unfold appendV at h
  split at h
  · rename_i e ht
    split at h
    · rename_i hu
      split at h
      · rename_i i hi
        split at h
        · rename_i m2 vs hrd
          obtain ⟨y', hy⟩ : ∃ y', evV E y = some y' := by
            cases e : evV E y with
            | none => rw [e] at hrd; simp [readV] at hrd
            | some y' => exact ⟨y', rfl⟩
          obtain ⟨News, d2, l2, hl, hf⟩ := read_run (P := P) hr hy (evV_den he hy) hrd
          split at h
          · rename_i hx
            have ex : a.eval x = .slice none 0 0 := by have := evV_den he hx; generalize a.eval x = X at this; cases this; rfl
            cases hm : Nat.beq m2 0 with
            | true =>
              rw [hm] at h
              cases h
              have := Nat.eq_of_beq_eq_true hm
              subst this
              have hn0 : News = [] := by simpa using l2
              have hf0 := hf w rfl
              have hl0 := hl w
              refine does_val hr (r := .slice none 0 0) (hrun ?_) .sl0
              rw [ex]
              have hi' := hi
              unfold isSrc at hu
              split at hu
              · rename_i e2 h2
                simp [Builtin.append_, un_run ht, un_run h2, sizeOf, typeInfo, hi', hl0, hf0]
              · rename_i h2
                simp [Builtin.append_, un_run ht, un_run h2, sizeOf, typeInfo, hi', hl0, hf0]
              · cases hu
            | false =>
              rw [hm] at h
              simp only [cond_false] at h
              cases hfit : fits i m2 with
              | false => rw [hfit] at h; cases h
              | true =>
                rw [hfit] at h
                cases h
                have hpos : 0 < m2 := by
                  rcases Nat.eq_zero_or_pos m2 with rfl | h
                  · cases hm
                  · exact h
                obtain ⟨w', ρ', r, g1, g2, g3, g4⟩ := grow_run (P := P) hr o.type ht hu hi (A := none) (m := 0) (c := 0) (olds := []) (Olds := []) (hl w) (hf w.drew rfl) (by simp [Builtin.firstCells]) .nil d2 (by simp) l2 (by omega) (by rw [Nat.zero_add]; exact hfit)
                refine ⟨w', ρ', g1, g2, r, hrun ?_, g4⟩
                rw [ex]; exact g3
          · rename_i b f m c hx
            obtain ⟨g, hg, ex⟩ := den_sl (evV_den he hx)
            cases hb : Nat.ble (Nat.add m m2) c with
            | true =>
              rw [hb] at h
              simp only [cond_true] at h
              split at h
              · rename_i H2 hw
                cases h
                obtain ⟨w', hs, hr'⟩ := write_run (P := P) hr hg d2 hw
                have := append_in (P := P) o.type ht hu hi (g := g) (f := f) (m := m) (c := c) (hl w) (hf w rfl) (Nat.le_of_ble_eq_true hb) hs
                exact ⟨w', ρ, Le.refl ρ, hr', _, hrun (by rw [ex]; exact this), .sl _ _ _ hg⟩
              · cases h
            | false =>
              rw [hb] at h
              simp only [cond_false] at h
              split at h
              · rename_i olds hp
                cases hfit : fits i (Nat.add m m2) with
                | false => rw [hfit] at h; cases h
                | true =>
                  rw [hfit] at h
                  cases h
                  obtain ⟨Olds, d1, l1, hro⟩ := rowPart_run (P := P) hr hg hp
                  have hlt : c < m + m2 := by
                    rcases Nat.lt_or_ge c (m + m2) with h | h
                    · exact h
                    · have hb' : Nat.ble (m + m2) c = false := hb
                      rw [Nat.ble_eq_true_of_le h] at hb'; cases hb'
                  obtain ⟨w', ρ', r, g1, g2, g3, g4⟩ := grow_run (P := P) hr o.type ht hu hi (A := some ⟨g, f, none⟩) (m := m) (c := c) (hl w) (hf w.drew rfl) (by simp only [Builtin.firstCells]; exact hro w.drew rfl) d1 d2 l1 l2 hlt hfit
                  exact ⟨w', ρ', g1, g2, r, hrun (by rw [ex]; exact g3), g4⟩
              · cases h
          · rename_i b f m c k hx
            obtain ⟨g, C, hg, hc, hz, ex⟩ := den_slo (evV_den he hx)
            cases hk : Nat.beq k i.size with
            | false => rw [hk] at h; cases h
            | true =>
              rw [hk] at h
              simp only [cond_true] at h
              have := Nat.eq_of_beq_eq_true hk
              subst this
              cases hb : Nat.ble (Nat.add m m2) c with
              | true =>
                rw [hb] at h
                simp only [cond_true] at h
                split at h
                · rename_i H2 hw
                  cases h
                  obtain ⟨w', hs, hr'⟩ := write_run (P := P) hr hg d2 hw
                  have := append_in (P := P) o.type ht hu hi (g := g) (f := f) (m := m) (c := C) (hl w) (hf w rfl) (Nat.le_trans (Nat.le_of_ble_eq_true hb) hc) hs
                  exact ⟨w', ρ, Le.refl ρ, hr', _, hrun (by rw [ex]; exact this), .slo _ _ hg hc hz⟩
                · cases h
              | false =>
                rw [hb] at h
                simp only [cond_false] at h
                cases hf0 : Nat.beq f 0 with
                | false => rw [hf0] at h; cases h
                | true =>
                  rw [hf0] at h
                  simp only [cond_true] at h
                  have := Nat.eq_of_beq_eq_true hf0
                  subst this
                  split at h
                  case h_2 => cases h
                  rename_i cs hrow
                  split at h
                  · rename_i olds hp
                    cases hfit : (fits i (Nat.add m m2) && allOne vs) with
                    | false => rw [hfit] at h; cases h
                    | true =>
                      rw [hfit] at h
                      cases h
                      rw [Bool.and_eq_true] at hfit
                      obtain ⟨Olds, d1, l1, hro⟩ := rowPart_run (P := P) hr hg hp
                      have l1 : Olds.length = m * i.size := l1
                      have hro : ∀ w', w'.heap = w.heap → (loadCells ⟨g, 0, none⟩ (m * i.size)).run P w' = .ok Olds.toArray w' := hro
                      by_cases hroom : m + m2 ≤ C
                      · -- in place
                        unfold rowPart at hp
                        rw [hrow] at hp
                        simp only [rowsV] at hp
                        · cases hb2 : Nat.ble (Nat.add 0 (Nat.mul m i.size)) (len cs) with
                          | false => rw [hb2] at hp; cases hp
                          | true =>
                            obtain ⟨Cs, R, t', hw, d, hsz⟩ := row_at hr hrow hg
                            have hfit2 : 0 + m * i.size + News.length ≤ (Cs ++ R).length := by
                              rw [l2, hsz, Nat.zero_add, ← Nat.add_mul]
                              refine Nat.le_trans ?_ (Nat.le_of_eq hz.1)
                              rw [Nat.zero_add]
                              exact Nat.mul_le_mul_right _ hroom
                            have hs := run_storeCells_at (P := P) g (0 + m * i.size) t' News 0 (Cs ++ R).toArray w hw (by simpa using hfit2) (allOne_den hfit.2 d2)
                            obtain ⟨X, hX, hs⟩ : ∃ X : Array Value, X.toList = (Cs ++ R).take (m * i.size) ++ News ++ (Cs ++ R).drop (m * i.size + News.length) ∧ (storeCells ⟨g, 0 + m * i.size, none⟩ News).run P w = .ok () (w.setRow g X) := ⟨_, by simp, hs⟩
                            have happ := append_in (P := P) o.type ht hu hi (g := g) (f := 0) (m := m) (c := C) (hl w) (hf w rfl) hroom hs
                            have hOlds : Olds = (Cs ++ R).take (m * i.size) := by
                              have h1 := hro w rfl
                              have h2 : (loadCells ⟨g, 0, none⟩ (m * i.size)).run P w = .ok ((Cs ++ R).extract 0 (0 + m * i.size)).toArray w := run_loadCells_at (P := P) g 0 (Cs ++ R) (cell_of hw) (m * i.size) (by omega)
                              have h3 := h1.symm.trans h2
                              simp only [Result.ok.injEq, and_true] at h3
                              have h4 := congrArg Array.toList h3
                              simpa [List.extract_eq_take_drop] using h4
                            refine ⟨w.setRow g X, up ρ n g (ρ.sz b), hr.le g (ρ.sz b), hr.move (x := .row (app olds vs)) (z := ρ.sz b) (by rw [hrow]; simp) hg ⟨Olds ++ News, (Cs ++ R).drop (m * i.size + News.length), t', ?_, ?_, ?_⟩ (fun k hk => heap_setRow_other _ hk) ⟨rfl, rfl, rfl, by rw [size_setRow]; exact Nat.le_refl _, Nat.le_refl _⟩, _, hrun (by rw [ex]; exact happ), ?_⟩
                            · rw [heap_setRow_self hw, hOlds]
                              congr 2
                              apply Array.ext'
                              rw [hX]
                            · rw [app_eq]; exact (d1.app d2).mono (hr.le _ _)
                            · rw [up_sz, ← hsz, List.length_append, List.length_append, List.length_drop, l1]
                              omega
                            · refine .slo 0 _ (up_new ..) hroom ?_
                              rw [up_sz]; exact hz
                      · -- a new row
                        obtain ⟨w', ρ', r, g1, g2, g3, g4⟩ := grow_run (P := P) (hr.kill b) o.type ht hu hi (A := some ⟨g, 0, none⟩) (m := m) (c := C) (hl w) (hf w.drew rfl) (by simp only [Builtin.firstCells]; exact hro w.drew rfl) d1 d2 l1 l2 (by omega) hfit.1
                        exact ⟨w', ρ', g1, g2, r, hrun (by rw [ex]; exact g3), g4⟩
                  · cases h
          · rename_i b f l k z hx
            obtain ⟨g, C, hg, hz, hlC, ex⟩ := den_sle (evV_den he hx)
            cases hm : Nat.beq m2 0 with
            | true =>
              rw [hm] at h
              cases h
              have := Nat.eq_of_beq_eq_true hm
              subst this
              have hn0 : News = [] := by simpa using l2
              subst hn0
              have hst : (storeCells ⟨g, (if C = l then f else f + l * k) + 0 * i.size, none⟩ []).run P w = .ok () w := rfl
              have := append_in (P := P) o.type ht hu hi (g := g) (f := if C = l then f else f + l * k) (m := 0) (c := bif z then 0 else C - l) (hl w) (hf w rfl) (by omega) hst
              exact does_val hr (r := .slice (some ⟨g, if C = l then f else f + l * k, none⟩) (0 + 0) (bif z then 0 else C - l)) (hrun (by rw [ex]; exact this)) (.sle _ _ z hg hz hlC)
            | false =>
              rw [hm] at h
              simp only [cond_false] at h
              cases z with
              | false => cases h
              | true =>
                simp only at h
                cases hfit : fits i m2 with
                | false => rw [hfit] at h; cases h
                | true =>
                  rw [hfit] at h
                  cases h
                  have hpos : 0 < m2 := by
                    rcases Nat.eq_zero_or_pos m2 with rfl | h
                    · cases hm
                    · exact h
                  obtain ⟨w', ρ', r, g1, g2, g3, g4⟩ := grow_run (P := P) hr o.type ht hu hi (A := some ⟨g, if C = l then f else f + l * k, none⟩) (m := 0) (c := 0) (olds := []) (Olds := []) (hl w) (hf w.drew rfl) (by simp [Builtin.firstCells, loadCells, loadCellsFrom]) .nil d2 (by simp) l2 (by omega) (by rw [Nat.zero_add]; exact hfit)
                  refine ⟨w', ρ', g1, g2, r, hrun ?_, g4⟩
                  rw [ex]; exact g3
          · cases h
        · cases h
      · cases h
    · cases h
  · cases h
end
end
end Go.Proofs.YtagbmfdheppmoaaGreatDoor.Vm

/-
  Slices, structs and slices that are built, texts and bytes.
-/
namespace Go.Proofs.YtagbmfdheppmoaaGreatDoor.Vm
set_option linter.unusedVariables false
set_option linter.unusedSimpArgs false
set_option linter.unusedSectionVars false
open Go.RowKit Go.Proofs.YtagbmfdheppmoaaGreatDoor.Sep
noncomputable section
variable [Vl]
def bndV (E : En) (x : Option Operand) (d : Nat) : Option Nat := match x with | none => some d | some x => natV (evV E x)
section
variable {P : Program} {Fr : Nat → Prop} {W w : World} {ρ : Pl} {H : T} {n : Nat} {a : Act} {N : Nat} {E : En} {o : Oper}
theorem bounds_run (he : HE ρ a N E) {lo hi mx : Option Operand} {sl : Bool} {ln cap l h m : Nat} (h1 : (match mx with | none => some cap | some x => natV (evV E x)) = some m) (h2 : bndV E hi ln = some h) (h3 : bndV E lo 0 = some l) (hmx : mx.isSome = true → hi.isSome = true) (hl : l ≤ h) (hh : h ≤ m) (hm : m ≤ cap) :
    (Instr.sliceBounds sl ln cap (lo.map a.eval) (hi.map a.eval) (mx.map a.eval)).run P w = .ok (l, h, m) w := by
  have lo' : ∀ {x : Operand}, lo = some x → ∃ k, a.eval x = .int k (l : Int) := fun e => by subst e; exact natV_den he h3
  have hi' : ∀ {x : Operand}, hi = some x → ∃ k, a.eval x = .int k (h : Int) := fun e => by subst e; exact natV_den he h2
  have mx' : ∀ {x : Operand}, mx = some x → ∃ k, a.eval x = .int k (m : Int) := fun e => by subst e; exact natV_den he h1
  cases mx with
  | none =>
    have : cap = m := Option.some.inj h1
    subst this
    cases hi with
    | none =>
      have : ln = h := Option.some.inj h2
      subst this
      cases lo with
      | none => have : 0 = l := Option.some.inj h3; subst this; simp [Instr.sliceBounds]
      | some x => obtain ⟨k3, e3⟩ := lo' rfl; simp [Instr.sliceBounds, run_bound e3 hl]
    | some y =>
      obtain ⟨k2, e2⟩ := hi' rfl
      cases lo with
      | none => have : 0 = l := Option.some.inj h3; subst this; simp [Instr.sliceBounds, run_bound e2 hh]
      | some x => obtain ⟨k3, e3⟩ := lo' rfl; simp [Instr.sliceBounds, run_bound e3 hl, run_bound e2 hh]
  | some z =>
    obtain ⟨k1, e1⟩ := mx' rfl
    cases hi with
    | none => simp at hmx
    | some y =>
      obtain ⟨k2, e2⟩ := hi' rfl
      cases lo with
      | none => have : 0 = l := Option.some.inj h3; subst this; simp [Instr.sliceBounds, run_bound e1 hm, run_bound e2 hh]
      | some x => obtain ⟨k3, e3⟩ := lo' rfl; simp [Instr.sliceBounds, run_bound e3 hl, run_bound e2 hh, run_bound e1 hm]
/-- The three bounds of a slice expression, if they may be. -/
def three (E : En) (lo hi mx : Option Operand) (ln cap : Nat) : Option (Nat × Nat × Nat) := match bndV E mx cap with
  | some m => (match bndV E hi ln with
    | some h => (match bndV E lo 0 with
      | some l => bif (!mx.isSome || hi.isSome) && (Nat.ble l h && (Nat.ble h m && Nat.ble m cap)) then some (l, h, m) else none
      | none => none)
    | none => none)
  | none => none
theorem three_spec {lo hi mx : Option Operand} {ln cap l h m : Nat} (e : three E lo hi mx ln cap = some (l, h, m)) : bndV E mx cap = some m ∧ bndV E hi ln = some h ∧ bndV E lo 0 = some l ∧ (mx.isSome = true → hi.isSome = true) ∧ l ≤ h ∧ h ≤ m ∧ m ≤ cap := by
  unfold three at e
  split at e
  · rename_i m' h1
    split at e
    · rename_i h' h2
      split at e
      · rename_i l' h3
        cases hb : ((!mx.isSome || hi.isSome) && (Nat.ble l' h' && (Nat.ble h' m' && Nat.ble m' cap))) with
        | false => rw [hb] at e; cases e
        | true =>
          rw [hb] at e
          cases e
          simp only [Bool.and_eq_true] at hb
          refine ⟨h1, h2, h3, fun hm => ?_, Nat.le_of_ble_eq_true hb.2.1, Nat.le_of_ble_eq_true hb.2.2.1, Nat.le_of_ble_eq_true hb.2.2.2⟩
          have := hb.1
          rw [hm] at this
          simpa using this
      · cases e
    · cases e
  · cases e
def sliceV (P : Program) (E : En) (t : TypeId) (x : Option V) (lo hi mx : Option Operand) : Option V := match unT P t with
  | some (.slice e) => (match szT P e with
    | some k => (match x with
      | some (.sl b f ln c) => (match three E lo hi mx ln c with
        | some (l, h, m) => some (.sl b (bif Nat.beq m l then f else Nat.add f (Nat.mul l k)) (Nat.sub h l) (Nat.sub m l))
        | none => none)
      | some (.slo b f ln c kk) => (match mx with
        | none => (match three E lo hi none ln c with
          | some (l, h, _) => bif Nat.beq kk k && (Nat.beq l 0 || Nat.blt l c) then some (.slo b (Nat.add f (Nat.mul l k)) (Nat.sub h l) (Nat.sub c l) k) else bif Nat.beq kk k && Nat.beq h l then some (.sle b f l k false) else none
          | none => none)
        | some z => (match three E lo hi (some z) ln c with
          | some (l, h, m) => some (.sl b (bif Nat.beq m l then f else Nat.add f (Nat.mul l k)) (Nat.sub h l) (Nat.sub m l))
          | none => none))
      | some .sl0 => (match three E lo hi mx 0 0 with | some _ => some .sl0 | none => none)
      | some (.sle b f p kk z) => (match three E lo hi mx 0 0 with | some _ => some (.sle b f p kk (match mx with | none => z | some _ => true)) | none => none)
      | _ => none)
    | none => none)
  | some (.array z e) => (match szT P e with
    | some k => (match x with
      | some (.ptr b f) => (match three E lo hi mx z z with
        | some (l, h, m) => some (.sl b (bif Nat.beq m l then f else Nat.add f (Nat.mul l k)) (Nat.sub h l) (Nat.sub m l))
        | none => none)
      | _ => none)
    | none => none)
  | some .string => (match x with
    | some (.str s) => (match mx with
      | none => (match three E lo hi none (len s) (len s) with
        | some (l, h, _) => some (.str (takeN (Nat.sub h l) (dropN l s)))
        | none => none)
      | some _ => none)
    | _ => none)
  | _ => none
theorem off_eq (g f l k m : Nat) : (if m = l then some (⟨g, f, none⟩ : Addr) else some ((⟨g, f, none⟩ : Addr).add (l * k))) = some ⟨g, bif Nat.beq m l then f else Nat.add f (Nat.mul l k), none⟩ := by
  rw [nbeq]
  by_cases h : m = l
  · simp [h]
  · simp [h, addr_lit]
theorem off_eq' (g f l k m : Nat) : (if m = l then (⟨g, f, none⟩ : Addr) else (⟨g, f, none⟩ : Addr).add (l * k)) = ⟨g, bif Nat.beq m l then f else Nat.add f (Nat.mul l k), none⟩ := by
  rw [nbeq]
  by_cases h : m = l
  · simp [h]
  · simp [h, addr_lit]
theorem pur_slice (he : HE ρ a N E) {t : TypeId} {x : Operand} {lo hi mx : Option Operand} {v : V} (ho : o.op = .slice t x lo hi mx) (h : sliceV P E t (evV E x) lo hi mx = some v) : Pur P ρ a o v := by
  unfold sliceV at h
  split at h
  · rename_i e hu
    split at h
    · rename_i k hk
      split at h
      · rename_i b f ln c hx
        obtain ⟨g, hg, ex⟩ := den_sl (evV_den he hx)
        split at h
        · rename_i l h' m e3
          obtain ⟨b1, b2, b3, b4, b5, b6, b7⟩ := three_spec e3
          cases h
          have hb := fun w => bounds_run (P := P) (w := w) (sl := true) he b1 b2 b3 b4 b5 b6 b7
          refine pur_val (r := .slice (some ⟨g, bif Nat.beq m l then f else Nat.add f (Nat.mul l k), none⟩) (h' - l) (m - l)) (fun w => ?_) (.sl _ _ _ hg)
          rw [← off_eq]
          simp [execOp, ho, Instr.sliceAt, Instr.slice, un_run hu, ex, hb, sz_run hk]
        · cases h
      · rename_i b f ln c kk hx
        obtain ⟨g, C, hg, hc, hz, ex⟩ := den_slo (evV_den he hx)
        split at h
        · split at h
          · rename_i l h' m e3
            obtain ⟨b1, b2, b3, b4, b5, b6, b7⟩ := three_spec e3
            cases hq : (Nat.beq kk k && (Nat.beq l 0 || Nat.blt l c)) with
            | false =>
              rw [hq] at h
              simp only [cond_false] at h
              cases hq2 : (Nat.beq kk k && Nat.beq h' l) with
              | false => rw [hq2] at h; cases h
              | true =>
                rw [hq2] at h
                cases h
                rw [Bool.and_eq_true] at hq2
                have := Nat.eq_of_beq_eq_true hq2.1
                subst this
                have := Nat.eq_of_beq_eq_true hq2.2
                subst this
                have hm : c = m := Option.some.inj b1
                subst hm
                have hb := fun w => bounds_run (P := P) (w := w) (sl := true) (mx := none) (cap := C) he (m := C) rfl b2 b3 (fun h => by cases h) b5 (Nat.le_trans b6 hc) (Nat.le_refl _)
                refine pur_val (r := .slice (some ⟨g, if C = h' then f else f + h' * kk, none⟩) 0 (C - h')) (fun w => ?_) (.sle _ _ false hg hz (Nat.le_trans b6 hc))
                have ea : (if C = h' then some (⟨g, f, none⟩ : Addr) else some ((⟨g, f, none⟩ : Addr).add (h' * kk))) = some ⟨g, if C = h' then f else f + h' * kk, none⟩ := by
                  by_cases hx : C = h'
                  · rw [if_pos hx, if_pos hx]
                  · rw [if_neg hx, if_neg hx, addr_lit]
                rw [← ea]
                simp only [Option.map_none] at hb
                simp [execOp, ho, Instr.sliceAt, Instr.slice, un_run hu, ex, hb, sz_run hk]
            | true =>
              rw [hq] at h
              cases h
              rw [Bool.and_eq_true] at hq
              have := Nat.eq_of_beq_eq_true hq.1
              subst this
              have hm : c = m := Option.some.inj b1
              subst hm
              have hb := fun w => bounds_run (P := P) (w := w) (sl := true) (mx := none) (cap := C) he (m := C) rfl b2 b3 (fun h => by cases h) b5 (Nat.le_trans b6 hc) (Nat.le_refl _)
              have hl0 : l = 0 ∨ l < C := by
                have := hq.2
                rw [Bool.or_eq_true] at this
                rcases this with h | h
                · exact .inl (Nat.eq_of_beq_eq_true h)
                · exact .inr (Nat.lt_of_lt_of_le (blt_lt h) hc)
              have ea : (if C = l then some (⟨g, f, none⟩ : Addr) else some ((⟨g, f, none⟩ : Addr).add (l * kk))) = some ⟨g, f + l * kk, none⟩ := by
                rcases hl0 with rfl | hlt
                · simp [addr_lit]
                · rw [if_neg (by omega), addr_lit]
              refine pur_val (r := .slice (some ⟨g, f + l * kk, none⟩) (h' - l) (C - l)) (fun w => ?_) (.slo _ _ hg (by show c - l ≤ C - l; omega) ⟨?_, hz.2⟩)
              · rw [← ea]
                simp only [Option.map_none] at hb
                simp [execOp, ho, Instr.sliceAt, Instr.slice, un_run hu, ex, hb, sz_run hk]
              · refine Eq.trans ?_ hz.1
                have : l ≤ C := by omega
                show f + l * kk + (C - l) * kk = f + C * kk
                rw [Nat.add_assoc, ← Nat.add_mul]
                rw [show l + (C - l) = C by omega]
          · cases h
        · rename_i z
          split at h
          · rename_i l h' m e3
            obtain ⟨b1, b2, b3, b4, b5, b6, b7⟩ := three_spec e3
            cases h
            have hb := fun w => bounds_run (P := P) (w := w) (sl := true) (mx := some z) (cap := C) he (m := m) b1 b2 b3 b4 b5 b6 (Nat.le_trans b7 hc)
            refine pur_val (r := .slice (some ⟨g, bif Nat.beq m l then f else Nat.add f (Nat.mul l k), none⟩) (h' - l) (m - l)) (fun w => ?_) (.sl _ _ _ hg)
            rw [← off_eq]
            simp only [Option.map_some] at hb
            simp [execOp, ho, Instr.sliceAt, Instr.slice, un_run hu, ex, hb, sz_run hk]
          · cases h
      · rename_i hx
        have ex : a.eval x = .slice none 0 0 := by have := evV_den he hx; generalize a.eval x = X at this; cases this; rfl
        split at h
        · rename_i q e3
          obtain ⟨l, h', m⟩ := q
          obtain ⟨b1, b2, b3, b4, b5, b6, b7⟩ := three_spec e3
          cases h
          have hb := fun w => bounds_run (P := P) (w := w) (sl := true) he b1 b2 b3 b4 b5 b6 b7
          have : m = 0 := by omega
          subst this
          have : h' = 0 := by omega
          subst this
          have : l = 0 := by omega
          subst this
          refine pur_val (r := .slice none 0 0) (fun w => ?_) .sl0
          simp [execOp, ho, Instr.sliceAt, Instr.slice, un_run hu, ex, hb, sz_run hk]
        · cases h
      · rename_i b f p kk z hx
        obtain ⟨g, C, hg, hz, hl, ex⟩ := den_sle (evV_den he hx)
        split at h
        · rename_i q e3
          obtain ⟨l, h', m⟩ := q
          obtain ⟨b1, b2, b3, b4, b5, b6, b7⟩ := three_spec e3
          cases h
          have : m = 0 := by omega
          subst this
          have : h' = 0 := by omega
          subst this
          have : l = 0 := by omega
          subst this
          cases mx with
          | none =>
            have hb := fun w => bounds_run (P := P) (w := w) (sl := true) (ln := 0) (mx := none) (cap := bif z then 0 else C - p) he (m := bif z then 0 else C - p) rfl b2 b3 (fun h => by cases h) (Nat.le_refl _) (Nat.zero_le _) (Nat.le_refl _)
            refine pur_val (r := .slice (some ⟨g, if C = p then f else f + p * kk, none⟩) 0 (bif z then 0 else C - p)) (fun w => ?_) (.sle _ _ z hg hz hl)
            simp only [Option.map_none] at hb
            have ea : ∀ x : Addr, x.add 0 = x := fun x => by cases x; rfl
            simp [execOp, ho, Instr.sliceAt, Instr.slice, un_run hu, ex, hb, sz_run hk, ea]
          | some y =>
            have hb := fun w => bounds_run (P := P) (w := w) (sl := true) (ln := 0) (mx := some y) (cap := bif z then 0 else C - p) he (m := 0) b1 b2 b3 b4 (Nat.le_refl _) (Nat.le_refl _) (Nat.zero_le _)
            refine pur_val (r := .slice (some ⟨g, if C = p then f else f + p * kk, none⟩) 0 (bif true then 0 else C - p)) (fun w => ?_) (.sle _ _ true hg hz hl)
            simp only [Option.map_some] at hb
            simp [execOp, ho, Instr.sliceAt, Instr.slice, un_run hu, ex, hb, sz_run hk]
        · cases h
      · cases h
    · cases h
  · rename_i z e hu
    split at h
    · rename_i k hk
      split at h
      · rename_i b f hx
        obtain ⟨g, hg, ex⟩ := den_ptr (evV_den he hx)
        split at h
        · rename_i l h' m e3
          obtain ⟨b1, b2, b3, b4, b5, b6, b7⟩ := three_spec e3
          cases h
          have hb := fun w => bounds_run (P := P) (w := w) (sl := false) he b1 b2 b3 b4 b5 b6 b7
          refine pur_val (r := .slice (some ⟨g, bif Nat.beq m l then f else Nat.add f (Nat.mul l k), none⟩) (h' - l) (m - l)) (fun w => ?_) (.sl _ _ _ hg)
          rw [← off_eq']
          simp [execOp, ho, Instr.sliceAt, Instr.sureAddr, un_run hu, ex, hb, sz_run hk]
        · cases h
      · cases h
    · cases h
  · rename_i hu
    split at h
    · rename_i s hx
      have ex := den_str (evV_den he hx)
      split at h
      · split at h
        · rename_i l h' m e3
          obtain ⟨b1, b2, b3, b4, b5, b6, b7⟩ := three_spec e3
          cases h
          have hm : len s = m := Option.some.inj b1
          subst hm
          have hb := fun w => bounds_run (P := P) (w := w) (sl := false) (ln := len s) (cap := len s) (mx := none) he rfl b2 b3 b4 b5 b6 b7
          refine pur_val (r := .string ⟨((s.drop l).take (h' - l)).toArray⟩) (fun w => ?_) (by rw [takeN_eq, dropN_eq]; exact .str _)
          have ez : (⟨s.toArray⟩ : ByteArray).size = len s := by rw [len_eq]; show s.toArray.size = _; simp
          have ee : (⟨s.toArray⟩ : ByteArray).extract l h' = ⟨((s.drop l).take (h' - l)).toArray⟩ := by
            apply ByteArray.ext
            simp [List.extract_eq_take_drop]
          simp only [Option.map_none] at hb
          simp [execOp, ho, Instr.sliceAt, Instr.slice, un_run hu, ex, ez, hb, ee]
        · cases h
      · cases h
    · cases h
  · cases h
theorem does_slice (hr : HR Fr W ρ H n w) (he : HE ρ a N E) {t : TypeId} {x : Operand} {lo hi mx : Option Operand} {v : V} (ho : o.op = .slice t x lo hi mx) (h : sliceV P E t (evV E x) lo hi mx = some v) : Does P Fr W ρ a w o (some v) H n := (pur_slice he ho h).does hr
end
end
end Go.Proofs.YtagbmfdheppmoaaGreatDoor.Vm

/-
  Structs and slices that are built; lengths; texts and bytes.
-/
namespace Go.Proofs.YtagbmfdheppmoaaGreatDoor.Vm
set_option linter.unusedVariables false
set_option linter.unusedSimpArgs false
set_option linter.unusedSectionVars false
open Go.RowKit Go.Proofs.YtagbmfdheppmoaaGreatDoor.Sep
noncomputable section
variable [Vl]
def partsV (E : En) (l : List (Nat × Operand)) : Option (List (Nat × List V)) := oall (fun p => match evV E p.2 with | some v => some (p.1, cellsV v) | none => none) l
section
variable {P : Program} {Fr : Nat → Prop} {W w : World} {ρ : Pl} {H : T} {n : Nat} {a : Act} {N : Nat} {E : En} {o : Oper}
theorem parts_den (he : HE ρ a N E) : ∀ {l : List (Nat × Operand)} {r : List (Nat × List V)}, partsV E l = some r → r.length = l.length ∧ ∀ (i : Nat) (p : Nat × List V) (q : Nat × Value), r[i]? = some p → (l.map fun p => (p.1, a.eval p.2))[i]? = some q → p.1 = q.1 ∧ DL ρ p.2 q.2.cells.toList
  | [], r, h => by
    have : [] = r := Option.some.inj h
    subst this
    exact ⟨rfl, fun i p q e => by simp at e⟩
  | x :: l, r, h => by
    obtain ⟨y, ys, h1, h2, rfl⟩ := oall_cons h
    obtain ⟨l1, l2⟩ := parts_den he (l := l) h2
    refine ⟨by simp [l1], fun i p q e1 e2 => ?_⟩
    cases i with
    | zero =>
      simp only [List.getElem?_cons_zero, Option.some.injEq, List.map_cons] at e1 e2
      subst e1
      subst e2
      split at h1
      · rename_i v hv
        cases h1
        exact ⟨rfl, (evV_den he hv).cells⟩
      · cases h1
    | succ i => exact l2 i p q (by simpa using e1) (by simpa using e2)
def buildV (P : Program) (E : En) (t : TypeId) (l : List (Nat × Operand)) : Option V := match zeT P t with
  | some z => (match partsV E l with
    | some ps => (match unT P t with
      | some (.struct fs) => (match still P (fs.mapM fun f => do pure (f.offset, ← sizeOf f.type)) with
        | some places => (match fillV (fun i => places[i]?) z ps with | some cs => some (.agg cs) | none => none)
        | none => none)
      | some (.array _ e) => (match szT P e with
        | some k => (match fillV (fun i => some (i * k, k)) z ps with | some cs => some (.agg cs) | none => none)
        | none => none)
      | _ => none)
    | none => none)
  | none => none
theorem zeT_run {t : TypeId} {cs : List V} (h : zeT P t = some cs) : ∃ z, (∀ w, (zeroValue t).run P w = .ok z w) ∧ ∀ ρ, DL ρ cs z.cells.toList := by
  unfold zeT at h
  split at h
  · rename_i z e; exact ⟨z, still_run e, fun ρ => oall_den h⟩
  · cases h
theorem pur_build (he : HE ρ a N E) {t : TypeId} {l : Array (Nat × Operand)} {v : V} (ho : o.op = .build t l) (h : buildV P E t l.toList = some v) : Pur P ρ a o v := by
  unfold buildV at h
  split at h
  · rename_i z hz
    obtain ⟨Z, z1, z2⟩ := zeT_run hz
    have el : (l.map fun x => (x.1, a.eval x.2)).toList = l.toList.map fun p => (p.1, a.eval p.2) := by simp
    split at h
    · rename_i ps hp
      obtain ⟨p1, p2⟩ := parts_den he hp
      split at h
      · rename_i fs hu
        split at h
        · rename_i places hs
          split at h
          · rename_i cs hc
            cases h
            obtain ⟨Rs, r1, r2⟩ := fillV_run (L := l.toList.map fun p => (p.1, a.eval p.2)) hc (z2 ρ) (by simp [p1]) p2
            refine pur_val (r := .agg Rs.toArray) (fun w => ?_) r2.agg
            have r1' : Instr.fill (fun x => places[x]?) Z.cells (l.toList.map fun p => (p.1, a.eval p.2)) = some Rs.toArray := by simpa using r1
            have hs' : ∀ w, Sem.run P (Array.mapM (fun f => Prod.mk f.offset <$> sizeOf f.type) fs) w = .ok places w := fun w => still_run hs w
            simp [execOp, ho, Instr.build, un_run hu, z1, hs', el, r1']
          · cases h
        · cases h
      · rename_i m e hu
        split at h
        · rename_i k hk
          split at h
          · rename_i cs hc
            cases h
            obtain ⟨Rs, r1, r2⟩ := fillV_run (L := l.toList.map fun p => (p.1, a.eval p.2)) hc (z2 ρ) (by simp [p1]) p2
            refine pur_val (r := .agg Rs.toArray) (fun w => ?_) r2.agg
            have r1' : Instr.fill (fun i => some (i * k, k)) Z.cells (l.toList.map fun p => (p.1, a.eval p.2)) = some Rs.toArray := by simpa using r1
            simp [execOp, ho, Instr.build, un_run hu, z1, sz_run hk, el, r1']
          · cases h
        · cases h
      · cases h
    · cases h
  · cases h
theorem does_build (hr : HR Fr W ρ H n w) (he : HE ρ a N E) {t : TypeId} {l : Array (Nat × Operand)} {v : V} (ho : o.op = .build t l) (h : buildV P E t l.toList = some v) : Does P Fr W ρ a w o (some v) H n := (pur_build he ho h).does hr
/-! ### slices that are built -/
def repl (n : Nat) (l : List V) : List V := Nat.rec (motive := fun _ => List V) [] (fun _ ih => app l ih) n
theorem flat_range (Z : Array Value) (k : Nat) (hk : Z.size = k) : ∀ m : Nat, ((Array.range (m * k)).map (Z[· % Z.size]!)).toList = (List.replicate m Z.toList).flatten := by
  intro m
  by_cases hk0 : k = 0
  · subst hk0
    have : Z.toList = [] := by simpa using hk
    simp [this]
  apply List.ext_getElem?
  intro i
  have hl : ((List.replicate m Z.toList).flatten).length = m * k := by simp [hk]
  by_cases hi : i < m * k
  · have e1 : ((Array.range (m * k)).map (Z[· % Z.size]!)).toList[i]? = some Z[i % k]! := by simp [hi, hk]
    rw [e1]
    have : ∀ (m i : Nat), i < m * k → ((List.replicate m Z.toList).flatten)[i]? = some Z[i % k]! := by
      intro m
      induction m with
      | zero => intro i h; omega
      | succ m ih =>
        intro i h
        rw [List.replicate_succ, List.flatten_cons]
        by_cases hik : i < k
        · rw [List.getElem?_append_left (by simpa [hk] using hik), Nat.mod_eq_of_lt hik]
          have hz : i < Z.size := by omega
          simp [hz]
        · rw [List.getElem?_append_right (by simpa [hk] using Nat.le_of_not_lt hik)]
          have e : i % k = (i - k) % k := by rw [Nat.mod_eq_sub_mod (Nat.le_of_not_lt hik)]
          have hl : Z.toList.length = k := by simpa using hk
          rw [hl, e]
          exact ih (i - k) (by rw [Nat.add_mul] at h; omega)
    rw [this m i hi]
  · rw [List.getElem?_eq_none (by simpa using hi), List.getElem?_eq_none (by rw [hl]; omega)]
theorem repl_den {ρ : Pl} {z : List V} {Z : List Value} (d : DL ρ z Z) : ∀ m, DL ρ (repl m z) (List.replicate m Z).flatten
  | 0 => .nil
  | m + 1 => by
    have e : repl (m + 1) z = app z (repl m z) := rfl
    rw [e, app_eq, List.replicate_succ, List.flatten_cons]
    exact d.app (repl_den d m)
def bslV (P : Program) (E : En) (H : T) (n : Nat) (t : TypeId) (m : Nat) (l : List (Nat × Operand)) : Out := match unT P t with
  | some (.slice e) => (match szT P e with
    | some k => (match zeT P e with
      | some z => (match partsV E l with
        | some ps => bif Nat.ble (Nat.mul m k) 16777216 && Nat.beq (len z) k then (match fillV (fun i => some (i * k, k)) (repl m z) ps with | some cs => newV (.sl n 0 m m) H n cs | none => none) else none
        | none => none)
      | none => none)
    | none => none)
  | _ => none
theorem does_bsl (hr : HR Fr W ρ H n w) (he : HE ρ a N E) {t : TypeId} {m : Nat} {l : Array (Nat × Operand)} {v : Option V} {H' : T} {n' : Nat} (ho : o.op = .buildSlice t m l) (h : bslV P E H n t m l.toList = some (v, H', n')) : Does P Fr W ρ a w o v H' n' := by
  unfold bslV at h
  split at h
  · rename_i e hu
    split at h
    · rename_i k hk
      split at h
      · rename_i z hz
        obtain ⟨Z, z1, z2⟩ := zeT_run hz
        split at h
        · rename_i ps hp
          obtain ⟨p1, p2⟩ := parts_den he hp
          cases hb : (Nat.ble (Nat.mul m k) 16777216 && Nat.beq (len z) k) with
          | false => rw [hb] at h; cases h
          | true =>
            rw [hb] at h
            simp only [cond_true] at h
            split at h
            · rename_i cs hc
              cases h
              rw [Bool.and_eq_true] at hb
              have b1 : ¬ (m * k > 2 ^ 24) := by have := Nat.le_of_ble_eq_true hb.1; show ¬ (m * k > 16777216); exact Nat.not_lt.2 this
              have b2 : Z.cells.size = k := by have := Nat.eq_of_beq_eq_true hb.2; rw [len_eq, (z2 ρ).1] at this; simpa using this
              obtain ⟨Rs, r1, r2⟩ := fillV_run (L := l.toList.map fun p => (p.1, a.eval p.2)) hc (repl_den (z2 ρ) m) (by simp [p1]) p2
              have el : (l.map fun x => (x.1, a.eval x.2)).toList = l.toList.map fun p => (p.1, a.eval p.2) := by simp
              have r1' : ∀ Y : Array Value, Y.toList = (List.replicate m Z.cells.toList).flatten → Instr.fill (fun i => some (i * k, k)) Y (l.toList.map fun p => (p.1, a.eval p.2)) = some Rs.toArray := by
                intro Y hY
                have : Y = ((List.replicate m Z.cells.toList).flatten).toArray := by apply Array.ext'; rw [hY]
                rw [this]; exact r1
              have hn := new_row hr (R := []) e r2
              refine ⟨_, _, hr.le _ _, hn, .slice (some ⟨w.heap.size, 0, none⟩) m m, ?_, .sl 0 m m (up_new ..)⟩
              have hfr := flat_range Z.cells k b2 m
              by_cases h0 : m * k = 0
              · have f1 := r1' #[] (by rw [← hfr, h0]; simp)
                have e0 : ∀ f : Nat → Value, Array.map f (Array.range 0) = #[] := fun f => by simp
                simp [execOp, ho, Instr.buildSlice, un_run hu, sz_run hk, h0, el, e0, f1, newRow]
              · have f1 := r1' ((Array.range (m * k)).map (Z.cells[· % Z.cells.size]!)) hfr
                simp [execOp, ho, Instr.buildSlice, un_run hu, sz_run hk, h0, Nat.not_lt.1 b1, z1, el, f1, newRow]
            · cases h
        · cases h
      · cases h
    · cases h
  · cases h
/-! ### slices that are made -/
def zinf (P : Program) (e : TypeId) : Option (Nat × Nat × List V) := match P.info? e with
  | some i => (match i.zero with | some z => (match ofV z with | some v => some (i.size, i.bytes, cellsV v) | none => none) | none => none)
  | none => none
def mslV (P : Program) (H : T) (n : Nat) (t : TypeId) (x y : Option Nat) : Out := match unT P t with
  | some (.slice e) => (match zinf P e with
    | some (k, by_, z) => (match x with
      | some l => (match y with
        | some c => bif Nat.ble l c && (Nat.ble (Nat.mul by_ c) 281474976710656 && (Nat.ble c 9223372036854775807 && Nat.beq (len z) k)) then newV (.sl n 0 l c) H n (repl c z) else none
        | none => none)
      | none => none)
    | none => none)
  | _ => none
theorem unT_eq {P : Program} {t : TypeId} {d : TypeDesc} (h : unT P t = some d) : P.underlying t = some d := by
  have := un_run h default
  cases hq : P.underlying t with
  | none => exfalso; simp [underlying, hq] at this
  | some d' => rw [run_underlying hq default] at this; simp only [Result.ok.injEq, and_true] at this; rw [this]
/-- A slice that is made, in the model. -/
theorem made_run {P : Program} {w : World} {t e : TypeId} {i : TypeInfo} {z : Value} (hu : P.underlying t = some (.slice e)) (hi : P.info? e = some i) (hz : i.zero = some z) (kx ky : IntKind) (x y : Nat) (hxy : x ≤ y)
    (hb : (i.bytes : Int) * (y : Int) ≤ 281474976710656) (hy : y ≤ 9223372036854775807) :
    (Instr.makeSlice t (.int kx (x : Int)) (.int ky (y : Int))).run P w = .ok (.slice (some ⟨w.heap.size, 0, none⟩) x y) (w.alloc (.cells ((Array.range (y * i.size)).map (z.cells[· % z.cells.size]!)) e)) := by
  have e1 : IntKind.i64.wrap (x : Int) = x := by rw [IntKind.wrap_i64]; omega
  have e2 : IntKind.i64.wrap (y : Int) = y := by rw [IntKind.wrap_i64]; omega
  have q1 : ¬ (y : Int) < 0 := by omega
  have q2 : ¬ (x : Int) < 0 := by omega
  have q3 : ¬ (y : Int) < x := by omega
  have q3' : ¬ y < x := by omega
  have q4 : ¬ (281474976710656 < (i.bytes : Int) * (y : Int)) := by omega
  by_cases h0 : y * i.size = 0
  · simp [Instr.makeSlice, run_underlying hu, asInt, asIntOf, typeInfo, hi, sizeOf, e1, e2, q1, q2, q3, q3', q4, h0, newRow, Array.range_zero']
  · simp [Instr.makeSlice, run_underlying hu, asInt, asIntOf, typeInfo, hi, sizeOf, zeroValue, hz, e1, e2, q1, q2, q3, q3', q4, h0, newRow]
theorem does_msl (hr : HR Fr W ρ H n w) (he : HE ρ a N E) {t : TypeId} {l c : Operand} {v : Option V} {H' : T} {n' : Nat} (ho : o.op = .makeSlice t l c) (h : mslV P H n t (natV (evV E l)) (natV (evV E c)) = some (v, H', n')) : Does P Fr W ρ a w o v H' n' := by
  unfold mslV at h
  split at h
  · rename_i e hu
    split at h
    · rename_i k by_ z hz
      split at h
      · rename_i x hx
        split at h
        · rename_i y hy
          cases hb : (Nat.ble x y && (Nat.ble (Nat.mul by_ y) 281474976710656 && (Nat.ble y 9223372036854775807 && Nat.beq (len z) k))) with
          | false => rw [hb] at h; cases h
          | true =>
            rw [hb] at h
            simp only [cond_true] at h
            cases h
            simp only [Bool.and_eq_true] at hb
            obtain ⟨b1, b2, b3, b4⟩ := hb
            have b1 := Nat.le_of_ble_eq_true b1
            have b2 : by_ * y ≤ 281474976710656 := Nat.le_of_ble_eq_true b2
            have b3 := Nat.le_of_ble_eq_true b3
            have b4 := Nat.eq_of_beq_eq_true b4
            unfold zinf at hz
            split at hz
            · rename_i i hi
              split at hz
              · rename_i zv hzv
                split at hz
                · rename_i v' hv'
                  cases hz
                  have dz := (ofV_den (ρ := ρ) hv').cells
                  have hk : zv.cells.size = i.size := by rw [len_eq, dz.1] at b4; simpa using b4
                  obtain ⟨kx, ex⟩ := natV_den he hx
                  obtain ⟨ky, ey⟩ := natV_den he hy
                  have e1 : ((Array.range (y * i.size)).map (zv.cells[· % zv.cells.size]!)).toList = (List.replicate y zv.cells.toList).flatten := flat_range _ _ hk y
                  have e2 : (Array.range (y * i.size)).map (zv.cells[· % zv.cells.size]!) = ((List.replicate y zv.cells.toList).flatten ++ []).toArray := by apply Array.ext'; rw [e1]; simp
                  have hn := new_row hr (R := []) e (repl_den dz y)
                  refine ⟨_, _, hr.le _ _, hn, .slice (some ⟨w.heap.size, 0, none⟩) x y, ?_, .sl 0 x y (up_new ..)⟩
                  have := made_run (P := P) (w := w) (unT_eq hu) hi hzv kx ky x y b1 (by rw [← Int.natCast_mul]; exact Int.ofNat_le.2 b2) b3
                  rw [e2] at this
                  simp [execOp, ho, ex, ey, this]
                · cases hz
              · cases hz
            · cases hz
        · cases h
      · cases h
    · cases h
  · cases h
/-! ### lengths -/
def lenV (P : Program) (H : T) (t : TypeId) (x : Option V) : Option V := match unT P t with
  | some .string => (match x with | some (.str s) => some (.int .i64 (.ofNat (len s))) | _ => none)
  | some (.array m _) => (match x with | some _ => some (.int .i64 (.ofNat m)) | none => none)
  | some (.slice _) => (match x with
    | some (.sl _ _ m _) => some (.int .i64 (.ofNat m))
    | some (.slo _ _ m _ _) => some (.int .i64 (.ofNat m))
    | some .sl0 => some (.int .i64 (.ofNat 0))
    | some (.sle _ _ _ _ _) => some (.int .i64 (.ofNat 0))
    | _ => none)
  | some (.map _ _) => (match x with
    | some .map0 => some (.int .i64 (.ofNat 0))
    | some (.map b) => (match get H b with | .map es _ => some (.int .i64 (.ofNat (len es))) | _ => none)
    | _ => none)
  | _ => none
theorem does_len (hr : HR Fr W ρ H n w) (he : HE ρ a N E) {t : TypeId} {x : Operand} {v : V} (ho : o.op = .call { callee := .builtin .len, args := #[x], argTypes := #[t] }) (h : lenV P H t (evV E x) = some v) : Does P Fr W ρ a w o (some v) H n := by
  unfold lenV at h
  split at h
  · rename_i hu
    split at h
    · rename_i s hx
      have ex := den_str (evV_den he hx)
      cases h
      refine does_val hr (r := .int .i64 ((len s : Nat) : Int)) ?_ (.int ..)
      have ez : (⟨s.toArray⟩ : ByteArray).size = len s := by rw [len_eq]; show s.toArray.size = _; simp
      simp [execOp, ho, resolve, invoke, builtin, Builtin.len_, un_run hu, ex, ez, goInt]
    · cases h
  · rename_i m e hu
    split at h
    · cases h
      exact does_val hr (r := .int .i64 (m : Int)) (by simp [execOp, ho, resolve, invoke, builtin, Builtin.len_, un_run hu, goInt]) (.int ..)
    · cases h
  · rename_i e hu
    split at h
    · rename_i b f m c hx
      obtain ⟨g, hg, ex⟩ := den_sl (evV_den he hx)
      cases h
      exact does_val hr (r := .int .i64 (m : Int)) (by simp [execOp, ho, resolve, invoke, builtin, Builtin.len_, un_run hu, ex, goInt]) (.int ..)
    · rename_i b f m c k hx
      obtain ⟨g, C, hg, hc, hz, ex⟩ := den_slo (evV_den he hx)
      cases h
      exact does_val hr (r := .int .i64 (m : Int)) (by simp [execOp, ho, resolve, invoke, builtin, Builtin.len_, un_run hu, ex, goInt]) (.int ..)
    · rename_i hx
      have ex : a.eval x = .slice none 0 0 := by have := evV_den he hx; generalize a.eval x = X at this; cases this; rfl
      cases h
      exact does_val hr (r := .int .i64 0) (by simp [execOp, ho, resolve, invoke, builtin, Builtin.len_, un_run hu, ex, goInt]) (.int ..)
    · rename_i b o' l k' z hx
      obtain ⟨g, C, hg, hz, hl, ex⟩ := den_sle (evV_den he hx)
      cases h
      exact does_val hr (r := .int .i64 0) (by simp [execOp, ho, resolve, invoke, builtin, Builtin.len_, un_run hu, ex, goInt]) (.int ..)
    · cases h
  · rename_i k e hu
    split at h
    · rename_i hx
      have ex : a.eval x = .map none := by have := evV_den he hx; generalize a.eval x = X at this; cases this; rfl
      cases h
      exact does_val hr (r := .int .i64 0) (by simp [execOp, ho, resolve, invoke, builtin, Builtin.len_, un_run hu, ex, goInt]) (.int ..)
    · rename_i b hx
      have ex : ∃ g, ρ b = some g ∧ a.eval x = .map (some g) := by have := evV_den he hx; generalize a.eval x = X at this; cases this with | map h => exact ⟨_, h, rfl⟩
      obtain ⟨g, hg, ex⟩ := ex
      split at h
      · rename_i es c hb
        cases h
        obtain ⟨g', e', l⟩ := hr.obj b (by rw [hb]; simp)
        rw [hg] at e'
        have := Option.some.inj e'
        subst this
        rw [hb] at l
        obtain ⟨Es, l1, l2, _⟩ := l
        refine does_val hr (r := .int .i64 ((len es : Nat) : Int)) ?_ (.int ..)
        rw [len_eq, ← l2]
        simp [execOp, ho, resolve, invoke, builtin, Builtin.len_, un_run hu, ex, goInt, getObj, Sem.run, l1]
      · cases h
    · cases h
  · cases h
theorem pur_len (he : HE ρ a N E) {t : TypeId} {x : Operand} {v : V} (ho : o.op = .call { callee := .builtin .len, args := #[x], argTypes := #[t] }) (h : lenV P T0 t (evV E x) = some v) : Pur P ρ a o v := by
  unfold lenV at h
  split at h
  · rename_i hu
    split at h
    · rename_i s hx
      have ex := den_str (evV_den he hx)
      cases h
      refine pur_val (r := .int .i64 ((len s : Nat) : Int)) (fun w => ?_) (.int ..)
      have ez : (⟨s.toArray⟩ : ByteArray).size = len s := by rw [len_eq]; show s.toArray.size = _; simp
      simp [execOp, ho, resolve, invoke, builtin, Builtin.len_, un_run hu, ex, ez, goInt]
    · cases h
  · rename_i m e hu
    split at h
    · cases h
      exact pur_val (r := .int .i64 (m : Int)) (fun w => by simp [execOp, ho, resolve, invoke, builtin, Builtin.len_, un_run hu, goInt]) (.int ..)
    · cases h
  · rename_i e hu
    split at h
    · rename_i b f m c hx
      obtain ⟨g, hg, ex⟩ := den_sl (evV_den he hx)
      cases h
      exact pur_val (r := .int .i64 (m : Int)) (fun w => by simp [execOp, ho, resolve, invoke, builtin, Builtin.len_, un_run hu, ex, goInt]) (.int ..)
    · rename_i b f m c k hx
      obtain ⟨g, C, hg, hc, hz, ex⟩ := den_slo (evV_den he hx)
      cases h
      exact pur_val (r := .int .i64 (m : Int)) (fun w => by simp [execOp, ho, resolve, invoke, builtin, Builtin.len_, un_run hu, ex, goInt]) (.int ..)
    · rename_i hx
      have ex : a.eval x = .slice none 0 0 := by have := evV_den he hx; generalize a.eval x = X at this; cases this; rfl
      cases h
      exact pur_val (r := .int .i64 0) (fun w => by simp [execOp, ho, resolve, invoke, builtin, Builtin.len_, un_run hu, ex, goInt]) (.int ..)
    · rename_i b o' l k' z hx
      obtain ⟨g, C, hg, hz, hl, ex⟩ := den_sle (evV_den he hx)
      cases h
      exact pur_val (r := .int .i64 0) (fun w => by simp [execOp, ho, resolve, invoke, builtin, Builtin.len_, un_run hu, ex, goInt]) (.int ..)
    · cases h
  · rename_i k e hu
    split at h
    · rename_i hx
      have ex : a.eval x = .map none := by have := evV_den he hx; generalize a.eval x = X at this; cases this; rfl
      cases h
      exact pur_val (r := .int .i64 0) (fun w => by simp [execOp, ho, resolve, invoke, builtin, Builtin.len_, un_run hu, ex, goInt]) (.int ..)
    · rename_i b hx
      have ex : ∃ g, ρ b = some g ∧ a.eval x = .map (some g) := by have := evV_den he hx; generalize a.eval x = X at this; cases this with | map h => exact ⟨_, h, rfl⟩
      obtain ⟨g, hg, ex⟩ := ex
      split at h
      · rename_i es c hb
        exact absurd (hb.symm.trans (get_T0 b)) (by simp)
      · cases h
    · cases h
  · cases h
end
end
end Go.Proofs.YtagbmfdheppmoaaGreatDoor.Vm
