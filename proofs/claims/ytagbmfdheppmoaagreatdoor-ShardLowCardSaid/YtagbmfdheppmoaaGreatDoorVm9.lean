import Derived.Test.YtagbmfdheppmoaaGreatDoorVm8
/-
  append, as the machine does it.
-/
namespace Go.Proofs.YtagbmfdheppmoaaGreatDoor.Vm
set_option linter.unusedVariables false
set_option linter.unusedSimpArgs false
set_option linter.unusedSectionVars false
open Go.RowKit Go.Proofs.YtagbmfdheppmoaaGreatDoor.Sep
noncomputable section
variable [Vl]
section
variable {P : Program} {Fr : Nat → Prop} {W w : World} {ρ : Pl} {H : T} {n : Nat} {a : Act} {N : Nat} {E : En} {o : Oper}
/-- The second argument is a slice or a text. -/
def isSrc (P : Program) (u : TypeId) : Bool := match unT P u with | some (.slice _) => true | some .string => true | _ => false
theorem append_in {t u e : TypeId} {i : TypeInfo} (ty : TypeId) (ht : unT P t = some (.slice e)) (hu : isSrc P u = true) (hi : P.info? e = some i) {g f m c m2 : Nat} {Y : Value} {news : List Value} {w' : World}
    (hl : (Builtin.lenOf Y).run P w = .ok m2 w) (hf : (Builtin.firstCells i.size m2 Y).run P w = .ok news.toArray w) (hroom : m + m2 ≤ c) (hst : (storeCells ⟨g, f + m * i.size, none⟩ news).run P w = .ok () w') :
    (Builtin.append_ #[t, u] ty #[.slice (some ⟨g, f, none⟩) m c, Y]).run P w = .ok (.slice (some ⟨g, f, none⟩) (m + m2) c) w' := by
  unfold isSrc at hu
  split at hu
  · rename_i e2 h2
    simp [Builtin.append_, un_run ht, un_run h2, sizeOf, typeInfo, hi, hl, hroom, hf, addr_lit, hst]
  · rename_i h2
    simp [Builtin.append_, un_run ht, un_run h2, sizeOf, typeInfo, hi, hl, hroom, hf, addr_lit, hst]
  · cases hu
theorem append_up {t u e : TypeId} {i : TypeInfo} {z : Value} (ty : TypeId) (ht : unT P t = some (.slice e)) (hu : isSrc P u = true) (hi : P.info? e = some i) (hz : i.zero = some z) {A : Option Addr} {m c m2 : Nat} {Y : Value} {olds news : List Value}
    (hl : (Builtin.lenOf Y).run P w = .ok m2 w) (hf : (Builtin.firstCells i.size m2 Y).run P w.drew = .ok news.toArray w.drew) (ho : (Builtin.firstCells i.size m (.slice A m c)).run P w.drew = .ok olds.toArray w.drew)
    (hg : c < m + m2) (h63 : m + m2 ≤ 9223372036854775807) (hfit : Builtin.nextslicecap (m + m2) c * i.bytes ≤ 281474976710656) :
    (Builtin.append_ #[t, u] ty #[.slice A m c, Y]).run P w =
      .ok (.slice (some ⟨w.heap.size, 0, none⟩) (m + m2) (grownCap w (m + m2) c e)) (w.drew.alloc (.cells (olds ++ news ++ (Builtin.zeroCells z.cells (grownCap w (m + m2) c e - (m + m2))).toList).toArray e)) := by
  have hn : ¬ (m + m2 ≤ c) := by omega
  have h63' : ¬ (9223372036854775807 < ((m : Int) + (m2 : Int))) := by omega
  have h48' : ¬ (281474976710656 < Builtin.nextslicecap (m + m2) c * i.bytes) := by omega
  have ea : (olds ++ news ++ (Builtin.zeroCells z.cells (grownCap w (m + m2) c e - (m + m2))).toList).toArray = olds.toArray ++ news.toArray ++ Builtin.zeroCells z.cells (grownCap w (m + m2) c e - (m + m2)) := by apply Array.ext'; simp
  rw [ea]
  unfold isSrc at hu
  split at hu
  · rename_i e2 h2
    simp [Builtin.append_, un_run ht, un_run h2, sizeOf, typeInfo, zeroValue, hi, hz, hl, hn, h63', h48', Question.forced, hf, ho, newRow, grownCap]
    congr 2
    apply Array.ext'
    simp
  · rename_i h2
    simp [Builtin.append_, un_run ht, un_run h2, sizeOf, typeInfo, zeroValue, hi, hz, hl, hn, h63', h48', Question.forced, hf, ho, newRow, grownCap]
    congr 2
    apply Array.ext'
    simp
  · cases hu
def fits (i : TypeInfo) (k : Nat) : Bool := match i.zero with
  | some z => Nat.blt 0 i.size && Nat.beq (len z.cells.toList) i.size && (Nat.ble k 9223372036854775807 && Nat.ble (Nat.mul k i.bytes) 140737488355328)
  | none => false
def grown (H : T) (n m m2 k : Nat) (olds vs : List V) : Out := some (some (.slo n 0 (Nat.add m m2) (Nat.add m m2) k), put H n (.row (app olds vs)), Nat.add n 1)
def appendV (P : Program) (H : T) (n : Nat) (t u : TypeId) (x y : Option V) : Out := match unT P t with
  | some (.slice e) => (match isSrc P u with
    | true => (match P.info? e with
      | some i => (match readV H i.size y with
        | some (m2, vs) => (match x with
          | some .sl0 => bif Nat.beq m2 0 then some (some .sl0, H, n) else bif fits i m2 then grown H n 0 m2 i.size [] vs else none
          | some (.sl b f m c) => bif Nat.ble (Nat.add m m2) c then (match writeV H b (Nat.add f (Nat.mul m i.size)) vs with | some H' => some (some (.sl b f (Nat.add m m2) c), H', n) | none => none)
            else (match rowPart H b f (Nat.mul m i.size) with | some olds => bif fits i (Nat.add m m2) then grown H n m m2 i.size olds vs else none | none => none)
          | some (.slo b f m c k) => bif Nat.beq k i.size then (bif Nat.ble (Nat.add m m2) c then (match writeV H b (Nat.add f (Nat.mul m k)) vs with | some H' => some (some (.slo b f (Nat.add m m2) c k), H', n) | none => none)
            else bif Nat.beq f 0 then (match get H b with | .row _ => (match rowPart H b 0 (Nat.mul m k) with | some olds => bif fits i (Nat.add m m2) && allOne vs then grown (put H b .no) n m m2 k olds vs else none | none => none) | _ => none) else none) else none
          | some (.sle b f l k z) => bif Nat.beq m2 0 then some (some (.sle b f l k z), H, n) else (match z with | true => bif fits i m2 then grown H n 0 m2 i.size [] vs else none | false => none)
          | _ => none)
        | none => none)
      | none => none)
    | false => none)
  | _ => none
theorem fits_spec {i : TypeInfo} {m m2 c : Nat} (h : fits i (m + m2) = true) (hg : c < m + m2) : ∃ z, i.zero = some z ∧ 0 < i.size ∧ z.cells.size = i.size ∧ m + m2 ≤ 9223372036854775807 ∧ Builtin.nextslicecap (m + m2) c * i.bytes ≤ 281474976710656 := by
  unfold fits at h
  split at h
  · rename_i z e
    simp only [Bool.and_eq_true, len_eq] at h
    refine ⟨z, e, blt_lt h.1.1, ?_, Nat.le_of_ble_eq_true h.2.1, growslice_fits hg (Nat.le_of_ble_eq_true h.2.2)⟩
    have := Nat.eq_of_beq_eq_true h.1.2
    simpa using this
  · cases h
/-- append that grows. -/
theorem grow_run (hr : HR Fr W ρ H n w) {t u e : TypeId} {i : TypeInfo} (ty : TypeId) (ht : unT P t = some (.slice e)) (hu : isSrc P u = true) (hi : P.info? e = some i) {A : Option Addr} {m c m2 : Nat} {Y : Value} {olds vs : List V} {Olds News : List Value}
    (hl : (Builtin.lenOf Y).run P w = .ok m2 w) (hf : (Builtin.firstCells i.size m2 Y).run P w.drew = .ok News.toArray w.drew) (ho : (Builtin.firstCells i.size m (.slice A m c)).run P w.drew = .ok Olds.toArray w.drew)
    (d1 : DL ρ olds Olds) (d2 : DL ρ vs News) (l1 : Olds.length = m * i.size) (l2 : News.length = m2 * i.size) (hg : c < m + m2) (hfit : fits i (m + m2) = true) :
    ∃ w' ρ' r, Le ρ ρ' ∧ HR Fr W ρ' (put H n (.row (app olds vs))) (n + 1) w' ∧ (Builtin.append_ #[t, u] ty #[.slice A m c, Y]).run P w = .ok r w' ∧ Den ρ' (.slo n 0 (m + m2) (m + m2) i.size) r := by
  obtain ⟨z, hz, hpos, hzs, h63, hn⟩ := fits_spec hfit hg
  have hrun := append_up ty ht hu hi hz hl hf ho hg h63 hn
  have hge := grownCap_ge w (m + m2) c e
  rw [app_eq]
  have hr2 := new_row hr.drew (R := (Builtin.zeroCells z.cells (grownCap w (m + m2) c e - (m + m2))).toList) e (d1.app d2)
  refine ⟨_, _, _, hr.drew.le _ _, hr2, hrun, .slo 0 _ (up_new ..) hge ?_⟩
  rw [up_sz]
  simp only [List.length_append, l1, l2, Array.length_toList, size_zeroCells, hzs, Nat.zero_add]
  refine ⟨?_, hpos⟩
  rw [← Nat.add_mul, ← Nat.add_mul]
  congr 1
  omega
theorem does_append (hr : HR Fr W ρ H n w) (he : HE ρ a N E) {t u : TypeId} {x y : Operand} {v : Option V} {H' : T} {n' : Nat} (ho : o.op = .call { callee := .builtin .append, args := #[x, y], argTypes := #[t, u] }) (h : appendV P H n t u (evV E x) (evV E y) = some (v, H', n')) : Does P Fr W ρ a w o v H' n' := by
  have hrun : ∀ {r : Value} {w' : World}, (Builtin.append_ #[t, u] o.type #[a.eval x, a.eval y]).run P w = .ok r w' → (execOp a.eval o).run P w = .ok (.value r) w' := fun h => by simp [execOp, ho, resolve, invoke, builtin, h]
  unfold appendV at h
  split at h
  · rename_i e ht
    split at h
    · rename_i hu
      split at h
      · rename_i i hi
        split at h
        · rename_i m2 vs hrd
          obtain ⟨y', hy⟩ : ∃ y', evV E y = some y' := by
            cases e : evV E y with
            | none => rw [e] at hrd; simp [readV] at hrd
            | some y' => exact ⟨y', rfl⟩
          obtain ⟨News, d2, l2, hl, hf⟩ := read_run (P := P) hr hy (evV_den he hy) hrd
          split at h
          · rename_i hx
            have ex : a.eval x = .slice none 0 0 := by have := evV_den he hx; generalize a.eval x = X at this; cases this; rfl
            cases hm : Nat.beq m2 0 with
            | true =>
              rw [hm] at h
              cases h
              have := Nat.eq_of_beq_eq_true hm
              subst this
              have hn0 : News = [] := by simpa using l2
              have hf0 := hf w rfl
              have hl0 := hl w
              refine does_val hr (r := .slice none 0 0) (hrun ?_) .sl0
              rw [ex]
              have hi' := hi
              unfold isSrc at hu
              split at hu
              · rename_i e2 h2
                simp [Builtin.append_, un_run ht, un_run h2, sizeOf, typeInfo, hi', hl0, hf0]
              · rename_i h2
                simp [Builtin.append_, un_run ht, un_run h2, sizeOf, typeInfo, hi', hl0, hf0]
              · cases hu
            | false =>
              rw [hm] at h
              simp only [cond_false] at h
              cases hfit : fits i m2 with
              | false => rw [hfit] at h; cases h
              | true =>
                rw [hfit] at h
                cases h
                have hpos : 0 < m2 := by
                  rcases Nat.eq_zero_or_pos m2 with rfl | h
                  · cases hm
                  · exact h
                obtain ⟨w', ρ', r, g1, g2, g3, g4⟩ := grow_run (P := P) hr o.type ht hu hi (A := none) (m := 0) (c := 0) (olds := []) (Olds := []) (hl w) (hf w.drew rfl) (by simp [Builtin.firstCells]) .nil d2 (by simp) l2 (by omega) (by rw [Nat.zero_add]; exact hfit)
                refine ⟨w', ρ', g1, g2, r, hrun ?_, g4⟩
                rw [ex]; exact g3
          · rename_i b f m c hx
            obtain ⟨g, hg, ex⟩ := den_sl (evV_den he hx)
            cases hb : Nat.ble (Nat.add m m2) c with
            | true =>
              rw [hb] at h
              simp only [cond_true] at h
              split at h
              · rename_i H2 hw
                cases h
                obtain ⟨w', hs, hr'⟩ := write_run (P := P) hr hg d2 hw
                have := append_in (P := P) o.type ht hu hi (g := g) (f := f) (m := m) (c := c) (hl w) (hf w rfl) (Nat.le_of_ble_eq_true hb) hs
                exact ⟨w', ρ, Le.refl ρ, hr', _, hrun (by rw [ex]; exact this), .sl _ _ _ hg⟩
              · cases h
            | false =>
              rw [hb] at h
              simp only [cond_false] at h
              split at h
              · rename_i olds hp
                cases hfit : fits i (Nat.add m m2) with
                | false => rw [hfit] at h; cases h
                | true =>
                  rw [hfit] at h
                  cases h
                  obtain ⟨Olds, d1, l1, hro⟩ := rowPart_run (P := P) hr hg hp
                  have hlt : c < m + m2 := by
                    rcases Nat.lt_or_ge c (m + m2) with h | h
                    · exact h
                    · have hb' : Nat.ble (m + m2) c = false := hb
                      rw [Nat.ble_eq_true_of_le h] at hb'; cases hb'
                  obtain ⟨w', ρ', r, g1, g2, g3, g4⟩ := grow_run (P := P) hr o.type ht hu hi (A := some ⟨g, f, none⟩) (m := m) (c := c) (hl w) (hf w.drew rfl) (by simp only [Builtin.firstCells]; exact hro w.drew rfl) d1 d2 l1 l2 hlt hfit
                  exact ⟨w', ρ', g1, g2, r, hrun (by rw [ex]; exact g3), g4⟩
              · cases h
          · rename_i b f m c k hx
            obtain ⟨g, C, hg, hc, hz, ex⟩ := den_slo (evV_den he hx)
            cases hk : Nat.beq k i.size with
            | false => rw [hk] at h; cases h
            | true =>
              rw [hk] at h
              simp only [cond_true] at h
              have := Nat.eq_of_beq_eq_true hk
              subst this
              cases hb : Nat.ble (Nat.add m m2) c with
              | true =>
                rw [hb] at h
                simp only [cond_true] at h
                split at h
                · rename_i H2 hw
                  cases h
                  obtain ⟨w', hs, hr'⟩ := write_run (P := P) hr hg d2 hw
                  have := append_in (P := P) o.type ht hu hi (g := g) (f := f) (m := m) (c := C) (hl w) (hf w rfl) (Nat.le_trans (Nat.le_of_ble_eq_true hb) hc) hs
                  exact ⟨w', ρ, Le.refl ρ, hr', _, hrun (by rw [ex]; exact this), .slo _ _ hg hc hz⟩
                · cases h
              | false =>
                rw [hb] at h
                simp only [cond_false] at h
                cases hf0 : Nat.beq f 0 with
                | false => rw [hf0] at h; cases h
                | true =>
                  rw [hf0] at h
                  simp only [cond_true] at h
                  have := Nat.eq_of_beq_eq_true hf0
                  subst this
                  split at h
                  case h_2 => cases h
                  rename_i cs hrow
                  split at h
                  · rename_i olds hp
                    cases hfit : (fits i (Nat.add m m2) && allOne vs) with
                    | false => rw [hfit] at h; cases h
                    | true =>
                      rw [hfit] at h
                      cases h
                      rw [Bool.and_eq_true] at hfit
                      obtain ⟨Olds, d1, l1, hro⟩ := rowPart_run (P := P) hr hg hp
                      have l1 : Olds.length = m * i.size := l1
                      have hro : ∀ w', w'.heap = w.heap → (loadCells ⟨g, 0, none⟩ (m * i.size)).run P w' = .ok Olds.toArray w' := hro
                      by_cases hroom : m + m2 ≤ C
                      · -- in place
                        unfold rowPart at hp
                        rw [hrow] at hp
                        simp only [rowsV] at hp
                        · cases hb2 : Nat.ble (Nat.add 0 (Nat.mul m i.size)) (len cs) with
                          | false => rw [hb2] at hp; cases hp
                          | true =>
                            obtain ⟨Cs, R, t', hw, d, hsz⟩ := row_at hr hrow hg
                            have hfit2 : 0 + m * i.size + News.length ≤ (Cs ++ R).length := by
                              rw [l2, hsz, Nat.zero_add, ← Nat.add_mul]
                              refine Nat.le_trans ?_ (Nat.le_of_eq hz.1)
                              rw [Nat.zero_add]
                              exact Nat.mul_le_mul_right _ hroom
                            have hs := run_storeCells_at (P := P) g (0 + m * i.size) t' News 0 (Cs ++ R).toArray w hw (by simpa using hfit2) (allOne_den hfit.2 d2)
                            obtain ⟨X, hX, hs⟩ : ∃ X : Array Value, X.toList = (Cs ++ R).take (m * i.size) ++ News ++ (Cs ++ R).drop (m * i.size + News.length) ∧ (storeCells ⟨g, 0 + m * i.size, none⟩ News).run P w = .ok () (w.setRow g X) := ⟨_, by simp, hs⟩
                            have happ := append_in (P := P) o.type ht hu hi (g := g) (f := 0) (m := m) (c := C) (hl w) (hf w rfl) hroom hs
                            have hOlds : Olds = (Cs ++ R).take (m * i.size) := by
                              have h1 := hro w rfl
                              have h2 : (loadCells ⟨g, 0, none⟩ (m * i.size)).run P w = .ok ((Cs ++ R).extract 0 (0 + m * i.size)).toArray w := run_loadCells_at (P := P) g 0 (Cs ++ R) (cell_of hw) (m * i.size) (by omega)
                              have h3 := h1.symm.trans h2
                              simp only [Result.ok.injEq, and_true] at h3
                              have h4 := congrArg Array.toList h3
                              simpa [List.extract_eq_take_drop] using h4
                            refine ⟨w.setRow g X, up ρ n g (ρ.sz b), hr.le g (ρ.sz b), hr.move (x := .row (app olds vs)) (z := ρ.sz b) (by rw [hrow]; simp) hg ⟨Olds ++ News, (Cs ++ R).drop (m * i.size + News.length), t', ?_, ?_, ?_⟩ (fun k hk => heap_setRow_other _ hk) ⟨rfl, rfl, rfl, by rw [size_setRow]; exact Nat.le_refl _, Nat.le_refl _⟩, _, hrun (by rw [ex]; exact happ), ?_⟩
                            · rw [heap_setRow_self hw, hOlds]
                              congr 2
                              apply Array.ext'
                              rw [hX]
                            · rw [app_eq]; exact (d1.app d2).mono (hr.le _ _)
                            · rw [up_sz, ← hsz, List.length_append, List.length_append, List.length_drop, l1]
                              omega
                            · refine .slo 0 _ (up_new ..) hroom ?_
                              rw [up_sz]; exact hz
                      · -- a new row
                        obtain ⟨w', ρ', r, g1, g2, g3, g4⟩ := grow_run (P := P) (hr.kill b) o.type ht hu hi (A := some ⟨g, 0, none⟩) (m := m) (c := C) (hl w) (hf w.drew rfl) (by simp only [Builtin.firstCells]; exact hro w.drew rfl) d1 d2 l1 l2 (by omega) hfit.1
                        exact ⟨w', ρ', g1, g2, r, hrun (by rw [ex]; exact g3), g4⟩
                  · cases h
          · rename_i b f l k z hx
            obtain ⟨g, C, hg, hz, hlC, ex⟩ := den_sle (evV_den he hx)
            cases hm : Nat.beq m2 0 with
            | true =>
              rw [hm] at h
              cases h
              have := Nat.eq_of_beq_eq_true hm
              subst this
              have hn0 : News = [] := by simpa using l2
              subst hn0
              have hst : (storeCells ⟨g, (if C = l then f else f + l * k) + 0 * i.size, none⟩ []).run P w = .ok () w := rfl
              have := append_in (P := P) o.type ht hu hi (g := g) (f := if C = l then f else f + l * k) (m := 0) (c := bif z then 0 else C - l) (hl w) (hf w rfl) (by omega) hst
              exact does_val hr (r := .slice (some ⟨g, if C = l then f else f + l * k, none⟩) (0 + 0) (bif z then 0 else C - l)) (hrun (by rw [ex]; exact this)) (.sle _ _ z hg hz hlC)
            | false =>
              rw [hm] at h
              simp only [cond_false] at h
              cases z with
              | false => cases h
              | true =>
                simp only at h
                cases hfit : fits i m2 with
                | false => rw [hfit] at h; cases h
                | true =>
                  rw [hfit] at h
                  cases h
                  have hpos : 0 < m2 := by
                    rcases Nat.eq_zero_or_pos m2 with rfl | h
                    · cases hm
                    · exact h
                  obtain ⟨w', ρ', r, g1, g2, g3, g4⟩ := grow_run (P := P) hr o.type ht hu hi (A := some ⟨g, if C = l then f else f + l * k, none⟩) (m := 0) (c := 0) (olds := []) (Olds := []) (hl w) (hf w.drew rfl) (by simp [Builtin.firstCells, loadCells, loadCellsFrom]) .nil d2 (by simp) l2 (by omega) (by rw [Nat.zero_add]; exact hfit)
                  refine ⟨w', ρ', g1, g2, r, hrun ?_, g4⟩
                  rw [ex]; exact g3
          · cases h
        · cases h
      · cases h
    · cases h
  · cases h
end
end
end Go.Proofs.YtagbmfdheppmoaaGreatDoor.Vm
