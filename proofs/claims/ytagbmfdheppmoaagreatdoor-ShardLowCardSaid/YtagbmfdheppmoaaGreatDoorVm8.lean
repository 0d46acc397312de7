import Derived.Test.YtagbmfdheppmoaaGreatDoorVm7
/-
  append: in place, or into a new row; where it is open which, the old row's number dies.
-/
namespace Go.Proofs.YtagbmfdheppmoaaGreatDoor.Vm
set_option linter.unusedVariables false
set_option linter.unusedSimpArgs false
set_option linter.unusedSectionVars false
open Go.RowKit Go.Proofs.YtagbmfdheppmoaaGreatDoor.Sep
noncomputable section
variable [Vl]
section
variable {P : Program} {Fr : Nat → Prop} {W w : World} {ρ : Pl} {H : T} {n : Nat} {a : Act} {N : Nat} {E : En} {o : Oper}
theorem get_kill (H : T) (b c : Nat) (h : get (put H b .no) c ≠ .no) : c ≠ b ∧ get (put H b .no) c = get H c := by
  have h1 : get (put H b .no) c = get H c := by
    rcases get_put H b c .no with e | ⟨_, e⟩
    · exact e
    · exact absurd e h
  refine ⟨fun e => ?_, h1⟩
  subst e
  exact h (put_same H c .no (by rw [h1] at h; exact h))
theorem HR.kill (h : HR Fr W ρ H n w) (b : Nat) : HR Fr W ρ (put H b .no) n w := by
  refine ⟨fun c hc => ?_, fun c d g hc hd e1 e2 => ?_, h.new, h.old, h.frm, h.ext⟩
  · obtain ⟨_, e⟩ := get_kill H b c hc
    rw [e] at hc ⊢
    exact h.obj c hc
  · have h1 := (get_kill H b c hc).2
    have h2 := (get_kill H b d hd).2
    exact h.inj c d g (h1 ▸ hc) (h2 ▸ hd) e1 e2
/-- A row gets a new number, and becomes another one; the old one is dead. -/
theorem HR.move (h : HR Fr W ρ H n w) {b g z : Nat} {x : Ob} {w' : World} (hbl : get H b ≠ .no) (hg : ρ b = some g) (hl : Lies (up ρ n g z) w' n g x) (ho : ∀ k, k ≠ g → w'.heap[k]? = w.heap[k]?) (he : Ext w w') :
    HR Fr W (up ρ n g z) (put (put H b .no) n x) (n + 1) w' := by
  have hnn : get H n = .no := by
    by_cases e : get H n = .no
    · exact e
    · obtain ⟨g, e1, _⟩ := h.obj n e
      rw [h.new n (Nat.le_refl _)] at e1; cases e1
  have key : ∀ c, get (put (put H b .no) n x) c ≠ .no → (c = n ∧ get (put (put H b .no) n x) c = x) ∨ (c ≠ n ∧ c ≠ b ∧ get (put (put H b .no) n x) c = get H c) := by
    intro c hc
    rcases get_put (put H b .no) n c x with e | ⟨e, e2⟩
    · have e' : get (put (put H b .no) n x) c = get (put H b .no) c := e
      rw [e'] at hc
      obtain ⟨h1, h2⟩ := get_kill H b c hc
      by_cases hcn : c = n
      · subst hcn; rw [h2, hnn] at hc; exact absurd rfl hc
      · exact .inr ⟨hcn, h1, e'.trans h2⟩
    · exact .inl ⟨e, e2⟩
  refine ⟨fun c hc => ?_, fun c d k hc hd e1 e2 => ?_, fun c hc => ?_, fun c k e => ?_, fun k hk => ⟨(h.frm k hk).1, (ho k fun e => by subst e; exact (h.old b k hg).1 hk).trans (h.frm k hk).2⟩, h.ext.trans he⟩
  · rcases key c hc with ⟨rfl, e⟩ | ⟨h1, h2, e⟩
    · exact ⟨g, up_new .., by rw [e]; exact hl⟩
    · rw [e] at hc ⊢
      obtain ⟨k, e1, l⟩ := h.obj c hc
      exact ⟨k, (h.le _ _ _ _ e1).1, (l.mono (h.le _ _) e1).at_ (ho k fun e3 => h2 (h.inj c b k hc hbl e1 (e3 ▸ hg)))⟩
  · have hx : ∀ c k, get (put (put H b .no) n x) c ≠ .no → (up ρ n g z) c = some k → (c = n ∧ k = g) ∨ (c ≠ n ∧ c ≠ b ∧ ρ c = some k ∧ get H c ≠ .no) := by
      intro c k hc e
      rcases key c hc with ⟨rfl, _⟩ | ⟨h1, h2, e3⟩
      · rw [up_new] at e; exact .inl ⟨rfl, (Option.some.inj e).symm⟩
      · rw [e3] at hc; rw [up_at, if_neg h1] at e; exact .inr ⟨h1, h2, e, hc⟩
    rcases hx c k hc e1 with ⟨rfl, rfl⟩ | ⟨h1, h2, h3, h4⟩
    · rcases hx d k hd e2 with ⟨rfl, _⟩ | ⟨_, k2, k3, k4⟩
      · rfl
      · exact absurd (h.inj d b k k4 hbl k3 hg) k2
    · rcases hx d k hd e2 with ⟨rfl, rfl⟩ | ⟨_, k2, k3, k4⟩
      · exact absurd (h.inj c b k h4 hbl h3 hg) h2
      · exact h.inj c d k h4 k4 h3 k3
  · rw [up_at, if_neg (by omega)]; exact h.new c (by omega)
  · have hs := he.size
    rw [up_at] at e
    by_cases hc : c = n
    · rw [if_pos hc] at e
      have := Option.some.inj e
      subst this
      exact ⟨(h.old b g hg).1, by have := (h.old b g hg).2; omega⟩
    · rw [if_neg hc] at e; exact ⟨(h.old c k e).1, by have := (h.old c k e).2; omega⟩
theorem HR.drew (h : HR Fr W ρ H n w) : HR Fr W ρ H n w.drew :=
  ⟨fun b hb => by obtain ⟨g, e, l⟩ := h.obj b hb; exact ⟨g, e, l.at_ rfl⟩, h.inj, h.new, h.old, h.frm, h.ext.trans ⟨rfl, rfl, rfl, Nat.le_refl _, Nat.le_succ _⟩⟩
/-! ### what is read -/
def u8s (s : List UInt8) : List V := List.rec (motive := fun _ => List V) [] (fun x _ ih => V.int .u8 (.ofNat (b8 x)) :: ih) s
def rowPart (H : T) (b f z : Nat) : Option (List V) := match rowsV (get H b) with
  | some cs => bif Nat.ble (Nat.add f z) (len cs) then some (takeN z (dropN f cs)) else none
  | none => none
def readV (H : T) (k : Nat) (y : Option V) : Option (Nat × List V) := match y with
  | some .sl0 => some (0, [])
  | some (.sle _ _ _ _ _) => some (0, [])
  | some (.sl b f m _) => (match rowPart H b f (Nat.mul m k) with | some l => some (m, l) | none => none)
  | some (.slo b f m _ _) => (match rowPart H b f (Nat.mul m k) with | some l => some (m, l) | none => none)
  | some (.str s) => bif Nat.beq k 1 then some (len s, u8s s) else none
  | _ => none
theorem rowPart_run (hr : HR Fr W ρ H n w) {b f z g : Nat} {l : List V} (hg : ρ b = some g) (h : rowPart H b f z = some l) : ∃ Ls : List Value, DL ρ l Ls ∧ Ls.length = z ∧ ∀ w', w'.heap = w.heap → (loadCells ⟨g, f, none⟩ z).run P w' = .ok Ls.toArray w' := by
  unfold rowPart at h
  split at h
  · rename_i cs hb
    cases hb2 : Nat.ble (Nat.add f z) (len cs) with
    | false => rw [hb2] at h; cases h
    | true =>
      rw [hb2] at h
      cases h
      have h1 : f + z ≤ cs.length := by have := Nat.le_of_ble_eq_true hb2; rwa [len_eq] at this
      obtain ⟨Cs, R, t', fz, hw, d, hsz⟩ := mem_at hr hb hg
      rw [d.1] at h1
      refine ⟨(Cs.drop f).take z, by rw [takeN_eq, dropN_eq]; exact (d.drop f).take z, by simp; omega, fun w' e => cells_run (P := P) (t := t') (R := R) (by rw [e]; exact hw) h1⟩
  · cases h
theorem u8s_den (ρ : Pl) : ∀ s : List UInt8, DL ρ (u8s s) (s.map fun b => Value.int .u8 (b.toNat : Int))
  | [] => .nil
  | x :: s => .cons (.int ..) (u8s_den ρ s)
theorem read_run (hr : HR Fr W ρ H n w) {k m : Nat} {y : Option V} {x : V} {Y : Value} {l : List V} (hy : y = some x) (d : Den ρ x Y) (h : readV H k y = some (m, l)) :
    ∃ Ls : List Value, DL ρ l Ls ∧ Ls.length = m * k ∧ (∀ w', (Builtin.lenOf Y).run P w' = .ok m w') ∧ ∀ w', w'.heap = w.heap → (Builtin.firstCells k m Y).run P w' = .ok Ls.toArray w' := by
  subst hy
  unfold readV at h
  split at h
  · rename_i e; cases e; cases h; cases d
    exact ⟨[], .nil, by simp, fun w' => by simp [Builtin.lenOf], fun w' _ => by simp [Builtin.firstCells]⟩
  · rename_i b o l k' z e; cases e; cases h
    obtain ⟨g, C, hg, hz, hl, rfl⟩ := den_sle d
    refine ⟨[], .nil, by simp, fun w' => by simp [Builtin.lenOf], fun w' _ => ?_⟩
    simp [Builtin.firstCells, loadCells, loadCellsFrom]
  · rename_i b f m' c e; cases e
    obtain ⟨g, hg, rfl⟩ := den_sl d
    split at h
    · rename_i l' hl
      cases h
      obtain ⟨Ls, d1, d2, d3⟩ := rowPart_run (P := P) hr hg hl
      exact ⟨Ls, d1, d2, fun w' => by simp [Builtin.lenOf], fun w' e => by simp only [Builtin.firstCells]; exact d3 w' e⟩
    · cases h
  · rename_i b f m' c k' e; cases e
    obtain ⟨g, C, hg, hc, hz, rfl⟩ := den_slo d
    split at h
    · rename_i l' hl
      cases h
      obtain ⟨Ls, d1, d2, d3⟩ := rowPart_run (P := P) hr hg hl
      exact ⟨Ls, d1, d2, fun w' => by simp [Builtin.lenOf], fun w' e => by simp only [Builtin.firstCells]; exact d3 w' e⟩
    · cases h
  · rename_i s e; cases e
    cases hk : Nat.beq k 1 with
    | false => rw [hk] at h; cases h
    | true =>
      rw [hk] at h
      cases h
      have := Nat.eq_of_beq_eq_true hk
      subst this
      have := den_str d
      subst this
      refine ⟨_, u8s_den ρ s, by rw [len_eq]; simp, fun w' => ?_, fun w' _ => ?_⟩
      · rw [len_eq]
        show Result.ok (s.toArray.size) w' = _
        simp
      · rw [len_eq]
        have e : ((⟨s.toArray⟩ : ByteArray).extract 0 s.length) = ⟨s.toArray⟩ := by
          apply ByteArray.ext
          simp
        simp only [Builtin.firstCells, e]
        show Result.ok _ w' = Result.ok _ w'
        congr 1
        simp
  · cases h
end
end
end Go.Proofs.YtagbmfdheppmoaaGreatDoor.Vm
