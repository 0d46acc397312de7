import Derived.Test.YtagbmfdheppmoaaGreatDoorVm1
/-
  The machine's memory: a tree of objects, and how it lies in a world of the model.
-/
namespace Go.Proofs.YtagbmfdheppmoaaGreatDoor.Vm
set_option linter.unusedVariables false
set_option linter.unusedSimpArgs false
set_option linter.unusedSectionVars false
open Go.RowKit Go.Proofs.YtagbmfdheppmoaaGreatDoor.Sep
noncomputable section
variable [Vl]
inductive D8 where
  | d0
  | d1
  | d2
  | d3
  | d4
  | d5
  | d6
  | d7
  deriving DecidableEq
inductive N8 (α : Type) where
  | mk (a0 a1 a2 a3 a4 a5 a6 a7 : α)
def N8.g0 {α : Type} (n : N8 α) : α := N8.rec (fun a0 a1 a2 a3 a4 a5 a6 a7 => a0) n
def N8.s0 {α : Type} (x : α) (n : N8 α) : N8 α := N8.rec (fun a0 a1 a2 a3 a4 a5 a6 a7 => .mk x a1 a2 a3 a4 a5 a6 a7) n
def N8.g1 {α : Type} (n : N8 α) : α := N8.rec (fun a0 a1 a2 a3 a4 a5 a6 a7 => a1) n
def N8.s1 {α : Type} (x : α) (n : N8 α) : N8 α := N8.rec (fun a0 a1 a2 a3 a4 a5 a6 a7 => .mk a0 x a2 a3 a4 a5 a6 a7) n
def N8.g2 {α : Type} (n : N8 α) : α := N8.rec (fun a0 a1 a2 a3 a4 a5 a6 a7 => a2) n
def N8.s2 {α : Type} (x : α) (n : N8 α) : N8 α := N8.rec (fun a0 a1 a2 a3 a4 a5 a6 a7 => .mk a0 a1 x a3 a4 a5 a6 a7) n
def N8.g3 {α : Type} (n : N8 α) : α := N8.rec (fun a0 a1 a2 a3 a4 a5 a6 a7 => a3) n
def N8.s3 {α : Type} (x : α) (n : N8 α) : N8 α := N8.rec (fun a0 a1 a2 a3 a4 a5 a6 a7 => .mk a0 a1 a2 x a4 a5 a6 a7) n
def N8.g4 {α : Type} (n : N8 α) : α := N8.rec (fun a0 a1 a2 a3 a4 a5 a6 a7 => a4) n
def N8.s4 {α : Type} (x : α) (n : N8 α) : N8 α := N8.rec (fun a0 a1 a2 a3 a4 a5 a6 a7 => .mk a0 a1 a2 a3 x a5 a6 a7) n
def N8.g5 {α : Type} (n : N8 α) : α := N8.rec (fun a0 a1 a2 a3 a4 a5 a6 a7 => a5) n
def N8.s5 {α : Type} (x : α) (n : N8 α) : N8 α := N8.rec (fun a0 a1 a2 a3 a4 a5 a6 a7 => .mk a0 a1 a2 a3 a4 x a6 a7) n
def N8.g6 {α : Type} (n : N8 α) : α := N8.rec (fun a0 a1 a2 a3 a4 a5 a6 a7 => a6) n
def N8.s6 {α : Type} (x : α) (n : N8 α) : N8 α := N8.rec (fun a0 a1 a2 a3 a4 a5 a6 a7 => .mk a0 a1 a2 a3 a4 a5 x a7) n
def N8.g7 {α : Type} (n : N8 α) : α := N8.rec (fun a0 a1 a2 a3 a4 a5 a6 a7 => a7) n
def N8.s7 {α : Type} (x : α) (n : N8 α) : N8 α := N8.rec (fun a0 a1 a2 a3 a4 a5 a6 a7 => .mk a0 a1 a2 a3 a4 a5 a6 x) n
def N8.get {α : Type} (d : D8) (n : N8 α) : α := D8.rec (motive := fun _ => N8 α → α) g0 g1 g2 g3 g4 g5 g6 g7 d n
def N8.set {α : Type} (d : D8) (x : α) (n : N8 α) : N8 α := D8.rec (motive := fun _ => α → N8 α → N8 α) s0 s1 s2 s3 s4 s5 s6 s7 d x n
theorem N8.get_set {α : Type} (a b : D8) (x : α) (n : N8 α) : N8.get a (N8.set b x n) = if a = b then x else N8.get a n := by cases n; cases a <;> cases b <;> rfl
def D8.num (d : D8) : Nat := D8.rec 0 1 2 3 4 5 6 7 d
def d8of (n : Nat) : D8 := (Nat.rec .d0 (fun n _ => (Nat.rec .d1 (fun n _ => (Nat.rec .d2 (fun n _ => (Nat.rec .d3 (fun n _ => (Nat.rec .d4 (fun n _ => (Nat.rec .d5 (fun n _ => (Nat.rec .d6 (fun n _ => .d7) n)) n)) n)) n)) n)) n)) n)
theorem d8of_num {n : Nat} (h : n < 8) : (d8of n).num = n := by
  rcases n with _ | n
  · rfl
  rcases n with _ | n
  · rfl
  rcases n with _ | n
  · rfl
  rcases n with _ | n
  · rfl
  rcases n with _ | n
  · rfl
  rcases n with _ | n
  · rfl
  rcases n with _ | n
  · rfl
  rcases n with _ | n
  · rfl
  omega
inductive D16 where
  | d0
  | d1
  | d2
  | d3
  | d4
  | d5
  | d6
  | d7
  | d8
  | d9
  | d10
  | d11
  | d12
  | d13
  | d14
  | d15
  deriving DecidableEq
inductive N16 (α : Type) where
  | mk (a0 a1 a2 a3 a4 a5 a6 a7 a8 a9 a10 a11 a12 a13 a14 a15 : α)
def N16.g0 {α : Type} (n : N16 α) : α := N16.rec (fun a0 a1 a2 a3 a4 a5 a6 a7 a8 a9 a10 a11 a12 a13 a14 a15 => a0) n
def N16.s0 {α : Type} (x : α) (n : N16 α) : N16 α := N16.rec (fun a0 a1 a2 a3 a4 a5 a6 a7 a8 a9 a10 a11 a12 a13 a14 a15 => .mk x a1 a2 a3 a4 a5 a6 a7 a8 a9 a10 a11 a12 a13 a14 a15) n
def N16.g1 {α : Type} (n : N16 α) : α := N16.rec (fun a0 a1 a2 a3 a4 a5 a6 a7 a8 a9 a10 a11 a12 a13 a14 a15 => a1) n
def N16.s1 {α : Type} (x : α) (n : N16 α) : N16 α := N16.rec (fun a0 a1 a2 a3 a4 a5 a6 a7 a8 a9 a10 a11 a12 a13 a14 a15 => .mk a0 x a2 a3 a4 a5 a6 a7 a8 a9 a10 a11 a12 a13 a14 a15) n
def N16.g2 {α : Type} (n : N16 α) : α := N16.rec (fun a0 a1 a2 a3 a4 a5 a6 a7 a8 a9 a10 a11 a12 a13 a14 a15 => a2) n
def N16.s2 {α : Type} (x : α) (n : N16 α) : N16 α := N16.rec (fun a0 a1 a2 a3 a4 a5 a6 a7 a8 a9 a10 a11 a12 a13 a14 a15 => .mk a0 a1 x a3 a4 a5 a6 a7 a8 a9 a10 a11 a12 a13 a14 a15) n
def N16.g3 {α : Type} (n : N16 α) : α := N16.rec (fun a0 a1 a2 a3 a4 a5 a6 a7 a8 a9 a10 a11 a12 a13 a14 a15 => a3) n
def N16.s3 {α : Type} (x : α) (n : N16 α) : N16 α := N16.rec (fun a0 a1 a2 a3 a4 a5 a6 a7 a8 a9 a10 a11 a12 a13 a14 a15 => .mk a0 a1 a2 x a4 a5 a6 a7 a8 a9 a10 a11 a12 a13 a14 a15) n
def N16.g4 {α : Type} (n : N16 α) : α := N16.rec (fun a0 a1 a2 a3 a4 a5 a6 a7 a8 a9 a10 a11 a12 a13 a14 a15 => a4) n
def N16.s4 {α : Type} (x : α) (n : N16 α) : N16 α := N16.rec (fun a0 a1 a2 a3 a4 a5 a6 a7 a8 a9 a10 a11 a12 a13 a14 a15 => .mk a0 a1 a2 a3 x a5 a6 a7 a8 a9 a10 a11 a12 a13 a14 a15) n
def N16.g5 {α : Type} (n : N16 α) : α := N16.rec (fun a0 a1 a2 a3 a4 a5 a6 a7 a8 a9 a10 a11 a12 a13 a14 a15 => a5) n
def N16.s5 {α : Type} (x : α) (n : N16 α) : N16 α := N16.rec (fun a0 a1 a2 a3 a4 a5 a6 a7 a8 a9 a10 a11 a12 a13 a14 a15 => .mk a0 a1 a2 a3 a4 x a6 a7 a8 a9 a10 a11 a12 a13 a14 a15) n
def N16.g6 {α : Type} (n : N16 α) : α := N16.rec (fun a0 a1 a2 a3 a4 a5 a6 a7 a8 a9 a10 a11 a12 a13 a14 a15 => a6) n
def N16.s6 {α : Type} (x : α) (n : N16 α) : N16 α := N16.rec (fun a0 a1 a2 a3 a4 a5 a6 a7 a8 a9 a10 a11 a12 a13 a14 a15 => .mk a0 a1 a2 a3 a4 a5 x a7 a8 a9 a10 a11 a12 a13 a14 a15) n
def N16.g7 {α : Type} (n : N16 α) : α := N16.rec (fun a0 a1 a2 a3 a4 a5 a6 a7 a8 a9 a10 a11 a12 a13 a14 a15 => a7) n
def N16.s7 {α : Type} (x : α) (n : N16 α) : N16 α := N16.rec (fun a0 a1 a2 a3 a4 a5 a6 a7 a8 a9 a10 a11 a12 a13 a14 a15 => .mk a0 a1 a2 a3 a4 a5 a6 x a8 a9 a10 a11 a12 a13 a14 a15) n
def N16.g8 {α : Type} (n : N16 α) : α := N16.rec (fun a0 a1 a2 a3 a4 a5 a6 a7 a8 a9 a10 a11 a12 a13 a14 a15 => a8) n
def N16.s8 {α : Type} (x : α) (n : N16 α) : N16 α := N16.rec (fun a0 a1 a2 a3 a4 a5 a6 a7 a8 a9 a10 a11 a12 a13 a14 a15 => .mk a0 a1 a2 a3 a4 a5 a6 a7 x a9 a10 a11 a12 a13 a14 a15) n
def N16.g9 {α : Type} (n : N16 α) : α := N16.rec (fun a0 a1 a2 a3 a4 a5 a6 a7 a8 a9 a10 a11 a12 a13 a14 a15 => a9) n
def N16.s9 {α : Type} (x : α) (n : N16 α) : N16 α := N16.rec (fun a0 a1 a2 a3 a4 a5 a6 a7 a8 a9 a10 a11 a12 a13 a14 a15 => .mk a0 a1 a2 a3 a4 a5 a6 a7 a8 x a10 a11 a12 a13 a14 a15) n
def N16.g10 {α : Type} (n : N16 α) : α := N16.rec (fun a0 a1 a2 a3 a4 a5 a6 a7 a8 a9 a10 a11 a12 a13 a14 a15 => a10) n
def N16.s10 {α : Type} (x : α) (n : N16 α) : N16 α := N16.rec (fun a0 a1 a2 a3 a4 a5 a6 a7 a8 a9 a10 a11 a12 a13 a14 a15 => .mk a0 a1 a2 a3 a4 a5 a6 a7 a8 a9 x a11 a12 a13 a14 a15) n
def N16.g11 {α : Type} (n : N16 α) : α := N16.rec (fun a0 a1 a2 a3 a4 a5 a6 a7 a8 a9 a10 a11 a12 a13 a14 a15 => a11) n
def N16.s11 {α : Type} (x : α) (n : N16 α) : N16 α := N16.rec (fun a0 a1 a2 a3 a4 a5 a6 a7 a8 a9 a10 a11 a12 a13 a14 a15 => .mk a0 a1 a2 a3 a4 a5 a6 a7 a8 a9 a10 x a12 a13 a14 a15) n
def N16.g12 {α : Type} (n : N16 α) : α := N16.rec (fun a0 a1 a2 a3 a4 a5 a6 a7 a8 a9 a10 a11 a12 a13 a14 a15 => a12) n
def N16.s12 {α : Type} (x : α) (n : N16 α) : N16 α := N16.rec (fun a0 a1 a2 a3 a4 a5 a6 a7 a8 a9 a10 a11 a12 a13 a14 a15 => .mk a0 a1 a2 a3 a4 a5 a6 a7 a8 a9 a10 a11 x a13 a14 a15) n
def N16.g13 {α : Type} (n : N16 α) : α := N16.rec (fun a0 a1 a2 a3 a4 a5 a6 a7 a8 a9 a10 a11 a12 a13 a14 a15 => a13) n
def N16.s13 {α : Type} (x : α) (n : N16 α) : N16 α := N16.rec (fun a0 a1 a2 a3 a4 a5 a6 a7 a8 a9 a10 a11 a12 a13 a14 a15 => .mk a0 a1 a2 a3 a4 a5 a6 a7 a8 a9 a10 a11 a12 x a14 a15) n
def N16.g14 {α : Type} (n : N16 α) : α := N16.rec (fun a0 a1 a2 a3 a4 a5 a6 a7 a8 a9 a10 a11 a12 a13 a14 a15 => a14) n
def N16.s14 {α : Type} (x : α) (n : N16 α) : N16 α := N16.rec (fun a0 a1 a2 a3 a4 a5 a6 a7 a8 a9 a10 a11 a12 a13 a14 a15 => .mk a0 a1 a2 a3 a4 a5 a6 a7 a8 a9 a10 a11 a12 a13 x a15) n
def N16.g15 {α : Type} (n : N16 α) : α := N16.rec (fun a0 a1 a2 a3 a4 a5 a6 a7 a8 a9 a10 a11 a12 a13 a14 a15 => a15) n
def N16.s15 {α : Type} (x : α) (n : N16 α) : N16 α := N16.rec (fun a0 a1 a2 a3 a4 a5 a6 a7 a8 a9 a10 a11 a12 a13 a14 a15 => .mk a0 a1 a2 a3 a4 a5 a6 a7 a8 a9 a10 a11 a12 a13 a14 x) n
def N16.get {α : Type} (d : D16) (n : N16 α) : α := D16.rec (motive := fun _ => N16 α → α) g0 g1 g2 g3 g4 g5 g6 g7 g8 g9 g10 g11 g12 g13 g14 g15 d n
def N16.set {α : Type} (d : D16) (x : α) (n : N16 α) : N16 α := D16.rec (motive := fun _ => α → N16 α → N16 α) s0 s1 s2 s3 s4 s5 s6 s7 s8 s9 s10 s11 s12 s13 s14 s15 d x n
theorem N16.get_set {α : Type} (a b : D16) (x : α) (n : N16 α) : N16.get a (N16.set b x n) = if a = b then x else N16.get a n := by cases n; cases a <;> cases b <;> rfl
def D16.num (d : D16) : Nat := D16.rec 0 1 2 3 4 5 6 7 8 9 10 11 12 13 14 15 d
def d16of (n : Nat) : D16 := (Nat.rec .d0 (fun n _ => (Nat.rec .d1 (fun n _ => (Nat.rec .d2 (fun n _ => (Nat.rec .d3 (fun n _ => (Nat.rec .d4 (fun n _ => (Nat.rec .d5 (fun n _ => (Nat.rec .d6 (fun n _ => (Nat.rec .d7 (fun n _ => (Nat.rec .d8 (fun n _ => (Nat.rec .d9 (fun n _ => (Nat.rec .d10 (fun n _ => (Nat.rec .d11 (fun n _ => (Nat.rec .d12 (fun n _ => (Nat.rec .d13 (fun n _ => (Nat.rec .d14 (fun n _ => .d15) n)) n)) n)) n)) n)) n)) n)) n)) n)) n)) n)) n)) n)) n)) n)
theorem d16of_num {n : Nat} (h : n < 16) : (d16of n).num = n := by
  rcases n with _ | n
  · rfl
  rcases n with _ | n
  · rfl
  rcases n with _ | n
  · rfl
  rcases n with _ | n
  · rfl
  rcases n with _ | n
  · rfl
  rcases n with _ | n
  · rfl
  rcases n with _ | n
  · rfl
  rcases n with _ | n
  · rfl
  rcases n with _ | n
  · rfl
  rcases n with _ | n
  · rfl
  rcases n with _ | n
  · rfl
  rcases n with _ | n
  · rfl
  rcases n with _ | n
  · rfl
  rcases n with _ | n
  · rfl
  rcases n with _ | n
  · rfl
  rcases n with _ | n
  · rfl
  omega
/-- Temporaries, by three digits. -/
abbrev En := N8 (N8 (N8 (Option V)))
inductive Dg where
  | mk (a b c : D8)
  | out
def dig (t : Nat) : Dg := Bool.rec .out (.mk (d8of (Nat.div t 64)) (d8of (Nat.mod (Nat.div t 8) 8)) (d8of (Nat.mod t 8))) (Nat.blt t 512)
def E1 : N8 (Option V) := .mk none none none none none none none none
def E2 : N8 (N8 (Option V)) := .mk E1 E1 E1 E1 E1 E1 E1 E1
def E0 : En := .mk E2 E2 E2 E2 E2 E2 E2 E2
def lookD (a b c : D8) (E : En) : Option V := N8.get c (N8.get b (N8.get a E))
def look (E : En) (t : Nat) : Option V := Dg.rec (motive := fun _ => En → Option V) lookD (fun _ => none) (dig t) E
def putD (a b c : D8) (v : V) (E : En) : En := N8.set a (N8.set b (N8.set c (some v) (N8.get b (N8.get a E))) (N8.get a E)) E
def setE (E : En) (t : Nat) (v : V) : En := Dg.rec (motive := fun _ => V → En → En) putD (fun _ E => E) (dig t) v E
theorem blt_dec (a b : Nat) : Nat.blt a b = decide (a < b) := by
  by_cases h : a < b
  · rw [decide_eq_true h]; exact Nat.ble_eq_true_of_le h
  · rw [decide_eq_false h]
    cases e : Nat.blt a b with
    | false => rfl
    | true => exact absurd (Nat.lt_of_succ_le (Nat.le_of_ble_eq_true e)) h
theorem dig_mk {t : Nat} {a b c : D8} (h : dig t = .mk a b c) : t = a.num * 64 + b.num * 8 + c.num := by
  unfold dig at h
  rw [blt_dec] at h
  by_cases ht : t < 512
  · rw [decide_eq_true ht] at h
    have h' : Dg.mk (d8of (Nat.div t 64)) (d8of (Nat.mod (Nat.div t 8) 8)) (d8of (Nat.mod t 8)) = .mk a b c := h
    have e1 : d8of (t / 64) = a := by injection h'
    have e2 : d8of (t / 8 % 8) = b := by injection h'
    have e3 : d8of (t % 8) = c := by injection h'
    rw [← e1, ← e2, ← e3, d8of_num (by omega), d8of_num (by omega), d8of_num (by omega)]
    omega
  · rw [decide_eq_false ht] at h; cases h
theorem look_set {E : En} {d t : Nat} {v x : V} (h : look (setE E d v) t = some x) : (d = t ∧ x = v) ∨ (d ≠ t ∧ look E t = some x) := by
  unfold setE look at h
  unfold look
  by_cases hdt : d = t
  · subst hdt
    cases hd : dig d with
    | out => rw [hd] at h; cases h
    | mk a b c =>
      rw [hd] at h
      have h : lookD a b c (putD a b c v E) = some x := h
      unfold lookD putD at h
      rw [N8.get_set, if_pos rfl, N8.get_set, if_pos rfl, N8.get_set, if_pos rfl] at h
      exact .inl ⟨rfl, (Option.some.inj h).symm⟩
  · refine .inr ⟨hdt, ?_⟩
    cases hd : dig d with
    | out => rw [hd] at h; exact h
    | mk a b c =>
      rw [hd] at h
      cases ht : dig t with
      | out => rw [ht] at h; cases h
      | mk a' b' c' =>
        rw [ht] at h
        have h : lookD a' b' c' (putD a b c v E) = some x := h
        show lookD a' b' c' E = some x
        unfold lookD putD at h
        rw [N8.get_set] at h
        by_cases h1 : a' = a
        · rw [if_pos h1, N8.get_set] at h
          by_cases h2 : b' = b
          · rw [if_pos h2, N8.get_set] at h
            by_cases h3 : c' = c
            · subst h1; subst h2; subst h3
              exact absurd ((dig_mk hd).trans (dig_mk ht).symm) hdt
            · rw [if_neg h3] at h; subst h1; subst h2; exact h
          · rw [if_neg h2] at h; subst h1; exact h
        · rw [if_neg h1] at h; exact h
theorem look_E0 (t : Nat) : look E0 t = none := by
  unfold look
  cases dig t with
  | out => rfl
  | mk a b c => cases a <;> cases b <;> cases c <;> rfl
/-- Objects in memory. A loop over a function: its body, what its function's temporaries were. -/
inductive Ob where
  | no
  | row (cs : List V)
  | frow (cs : List V)
  | map (es : List (V × V × Nat)) (clock : Nat)
  | loop (st : Nat) (pend : Option Code) (N : Nat) (E : En) (ps : List Nat) (assign body : Code)
abbrev T := N16 (N16 (N16 (N16 (N16 Ob))))
inductive Dh where
  | mk (a b c d e : D16)
  | out
def dih (t : Nat) : Dh := Bool.rec .out (.mk (d16of (Nat.div t 65536)) (d16of (Nat.mod (Nat.div t 4096) 16)) (d16of (Nat.mod (Nat.div t 256) 16)) (d16of (Nat.mod (Nat.div t 16) 16)) (d16of (Nat.mod t 16))) (Nat.blt t 1048576)
def T1 : N16 Ob := .mk .no .no .no .no .no .no .no .no .no .no .no .no .no .no .no .no
def T2 : N16 (N16 Ob) := .mk T1 T1 T1 T1 T1 T1 T1 T1 T1 T1 T1 T1 T1 T1 T1 T1
def T3 : N16 (N16 (N16 Ob)) := .mk T2 T2 T2 T2 T2 T2 T2 T2 T2 T2 T2 T2 T2 T2 T2 T2
def T4 : N16 (N16 (N16 (N16 Ob))) := .mk T3 T3 T3 T3 T3 T3 T3 T3 T3 T3 T3 T3 T3 T3 T3 T3
def T0 : T := .mk T4 T4 T4 T4 T4 T4 T4 T4 T4 T4 T4 T4 T4 T4 T4 T4
def getD (a b c d e : D16) (t : T) : Ob := N16.get e (N16.get d (N16.get c (N16.get b (N16.get a t))))
def get (t : T) (k : Nat) : Ob := Dh.rec (motive := fun _ => T → Ob) getD (fun _ => .no) (dih k) t
def set1 (a b c d e : D16) (x : Ob) (t : T) : T := N16.set a (N16.set b (N16.set c (N16.set d (N16.set e x (N16.get d (N16.get c (N16.get b (N16.get a t))))) (N16.get c (N16.get b (N16.get a t)))) (N16.get b (N16.get a t))) (N16.get a t)) t
def put (t : T) (k : Nat) (x : Ob) : T := Dh.rec (motive := fun _ => Ob → T → T) set1 (fun _ t => t) (dih k) x t
theorem nbeq {a b : Nat} : Nat.beq a b = decide (a = b) := by
  by_cases h : a = b
  · subst h; simp
  · simp only [h, decide_false]
    cases hb : Nat.beq a b with
    | false => rfl
    | true => exact absurd (Nat.eq_of_beq_eq_true hb) h
theorem dih_mk {t : Nat} {a b c d e : D16} (h : dih t = .mk a b c d e) : t = a.num * 65536 + b.num * 4096 + c.num * 256 + d.num * 16 + e.num := by
  unfold dih at h
  rw [blt_dec] at h
  by_cases ht : t < 1048576
  · rw [decide_eq_true ht] at h
    have h' : Dh.mk (d16of (Nat.div t 65536)) (d16of (Nat.mod (Nat.div t 4096) 16)) (d16of (Nat.mod (Nat.div t 256) 16)) (d16of (Nat.mod (Nat.div t 16) 16)) (d16of (Nat.mod t 16)) = .mk a b c d e := h
    have e1 : d16of (t / 65536) = a := by injection h'
    have e2 : d16of (t / 4096 % 16) = b := by injection h'
    have e3 : d16of (t / 256 % 16) = c := by injection h'
    have e4 : d16of (t / 16 % 16) = d := by injection h'
    have e5 : d16of (t % 16) = e := by injection h'
    rw [← e1, ← e2, ← e3, ← e4, ← e5, d16of_num (by omega), d16of_num (by omega), d16of_num (by omega), d16of_num (by omega), d16of_num (by omega)]
    omega
  · rw [decide_eq_false ht] at h; cases h
theorem get_T0 (k : Nat) : get T0 k = .no := by
  unfold get
  cases dih k with
  | out => rfl
  | mk a b c d e =>
    show N16.get e (N16.get d (N16.get c (N16.get b (N16.get a T0)))) = .no
    rw [show N16.get a T0 = T4 by cases a <;> rfl, show N16.get b T4 = T3 by cases b <;> rfl, show N16.get c T3 = T2 by cases c <;> rfl, show N16.get d T2 = T1 by cases d <;> rfl]
    cases e <;> rfl
theorem get_put (t : T) (k j : Nat) (x : Ob) : get (put t k x) j = get t j ∨ (j = k ∧ get (put t k x) j = x) := by
  unfold put get
  cases hk : dih k with
  | out => exact .inl rfl
  | mk a b c d e =>
    cases hj : dih j with
    | out => exact .inl rfl
    | mk a' b' c' d' e' =>
      show getD a' b' c' d' e' (set1 a b c d e x t) = getD a' b' c' d' e' t ∨ (j = k ∧ getD a' b' c' d' e' (set1 a b c d e x t) = x)
      unfold getD set1
      rw [N16.get_set]
      by_cases h1 : a' = a
      · rw [if_pos h1, N16.get_set]
        by_cases h2 : b' = b
        · rw [if_pos h2, N16.get_set]
          by_cases h3 : c' = c
          · rw [if_pos h3, N16.get_set]
            by_cases h4 : d' = d
            · rw [if_pos h4, N16.get_set]
              by_cases h5 : e' = e
              · rw [if_pos h5]
                subst h1; subst h2; subst h3; subst h4; subst h5
                exact .inr ⟨(dih_mk hj).trans (dih_mk hk).symm, rfl⟩
              · rw [if_neg h5]; subst h1; subst h2; subst h3; subst h4; exact .inl rfl
            · rw [if_neg h4]; subst h1; subst h2; subst h3; exact .inl rfl
          · rw [if_neg h3]; subst h1; subst h2; exact .inl rfl
        · rw [if_neg h2]; subst h1; exact .inl rfl
      · rw [if_neg h1]; exact .inl rfl
theorem put_same (t : T) (k : Nat) (x : Ob) (h : get t k ≠ .no) : get (put t k x) k = x := by
  unfold put get
  unfold get at h
  cases hk : dih k with
  | out => rw [hk] at h; exact absurd rfl h
  | mk a b c d e =>
    show getD a b c d e (set1 a b c d e x t) = x
    unfold getD set1
    rw [N16.get_set, if_pos rfl, N16.get_set, if_pos rfl, N16.get_set, if_pos rfl, N16.get_set, if_pos rfl, N16.get_set, if_pos rfl]
/-- What is known of temporaries. -/
structure HE (ρ : Pl) (a : Act) (N : Nat) (E : En) : Prop where
  size : a.tmps.size = N
  get : ∀ t v, look E t = some v → ∃ w, a.tmps[t]? = some w ∧ Den ρ v w
theorem HE.mono {ρ σ : Pl} {a : Act} {N : Nat} {E : En} (h : HE ρ a N E) (l : Le ρ σ) : HE σ a N E :=
  ⟨h.size, fun t v e => by obtain ⟨w, e1, d⟩ := h.get t v e; exact ⟨w, e1, d.mono l⟩⟩
theorem HE.put {ρ : Pl} {a : Act} {N : Nat} {E : En} (h : HE ρ a N E) {d : Nat} {v : V} {w : Value} (hd : d < N) (k : Den ρ v w) : HE ρ (a.put (some d) w) N (setE E d v) := by
  refine ⟨by simp [Act.put, h.size], fun t x e => ?_⟩
  rcases look_set e with ⟨e1, e2⟩ | ⟨e1, e0⟩
  · subst e1
    subst e2
    exact ⟨w, by simp [Act.put, h.size, hd], k⟩
  · obtain ⟨y, e2, d2⟩ := h.get t x e0
    exact ⟨y, by simp only [Act.put]; rw [Array.getElem?_setIfInBounds_ne e1]; exact e2, d2⟩
def stOf (n : Nat) : LoopState := match n with | 0 => .ready | 1 => .busy | 2 => .done | _ => .exhausted
/-- How an object lies in a world. -/
def Lies (ρ : Pl) (w : World) (b g : Nat) : Ob → Prop
  | .no => True
  | .row cs => ∃ (Cs R : List Value) (t : TypeId), w.heap[g]? = some (.cells (Cs ++ R).toArray t (0, 0)) ∧ DL ρ cs Cs ∧ (Cs ++ R).length = ρ.sz b
  | .frow cs => ∃ (Cs R : List Value) (t : TypeId) (fz : Nat × Nat), w.heap[g]? = some (.cells (Cs ++ R).toArray t fz) ∧ DL ρ cs Cs ∧ (Cs ++ R).length = ρ.sz b
  | .map es clock => ∃ Es : List MapEntry, w.heap[g]? = some (.map Es.toArray clock) ∧ Es.length = es.length ∧ ∀ (i : Nat) (e : V × V × Nat) (x : MapEntry), es[i]? = some e → Es[i]? = some x → Den ρ e.1 x.key ∧ Den ρ e.2.1 x.val ∧ x.born = e.2.2
  | .loop st pd N E ps as bd => ∃ (fn : FuncId) (tmps : Array Value) (df : Nat), w.heap[g]? = some (.loop { state := stOf st, pending := pd, fn := fn, tmps := tmps, params := ps.toArray, assign := as, body := bd, defers := df }) ∧ HE ρ { tmps := tmps, defers := [] } N E
theorem Lies.mono {ρ σ : Pl} (l : Le ρ σ) {w : World} {b g : Nat} {o : Ob} (hb : ρ b = some g) (h : Lies ρ w b g o) : Lies σ w b g o := by
  cases o with
  | no => trivial
  | row cs => obtain ⟨Cs, R, t, h1, h2, h3⟩ := h; exact ⟨Cs, R, t, h1, h2.mono l, h3.trans (l _ _ hb).2.symm⟩
  | frow cs => obtain ⟨Cs, R, t, fz, h1, h2, h3⟩ := h; exact ⟨Cs, R, t, fz, h1, h2.mono l, h3.trans (l _ _ hb).2.symm⟩
  | map es c => obtain ⟨Es, h1, h2, h3⟩ := h; exact ⟨Es, h1, h2, fun i e x a b => ⟨(h3 i e x a b).1.mono l, (h3 i e x a b).2.1.mono l, (h3 i e x a b).2.2⟩⟩
  | loop st pd N E ps as bd => obtain ⟨fn, tmps, df, h1, h2⟩ := h; exact ⟨fn, tmps, df, h1, h2.mono l⟩
theorem Lies.at_ {ρ : Pl} {w w' : World} {b g : Nat} {o : Ob} (h : Lies ρ w b g o) (e : w'.heap[g]? = w.heap[g]?) : Lies ρ w' b g o := by
  cases o with
  | no => trivial
  | row cs => obtain ⟨Cs, R, t, h1, h2⟩ := h; exact ⟨Cs, R, t, e.trans h1, h2⟩
  | frow cs => obtain ⟨Cs, R, t, fz, h1, h2⟩ := h; exact ⟨Cs, R, t, fz, e.trans h1, h2⟩
  | map es c => obtain ⟨Es, h1, h2⟩ := h; exact ⟨Es, e.trans h1, h2⟩
  | loop st pd N E ps as bd => obtain ⟨fn, tmps, df, h1, h2⟩ := h; exact ⟨fn, tmps, df, e.trans h1, h2⟩
/-- How the machine's memory lies in the world w, since the world W; Fr: blocks that are none of its own. -/
structure HR (Fr : Nat → Prop) (W : World) (ρ : Pl) (H : T) (n : Nat) (w : World) : Prop where
  obj : ∀ b, get H b ≠ .no → ∃ g, ρ b = some g ∧ Lies ρ w b g (get H b)
  inj : ∀ b c g, get H b ≠ .no → get H c ≠ .no → ρ b = some g → ρ c = some g → b = c
  new : ∀ b, n ≤ b → ρ b = none
  old : ∀ b g, ρ b = some g → ¬ Fr g ∧ g < w.heap.size
  frm : ∀ g, Fr g → g < W.heap.size ∧ w.heap[g]? = W.heap[g]?
  ext : Ext W w
def up (ρ : Pl) (n g z : Nat) : Pl := ⟨fun b => if b = n then some g else ρ b, fun b => if b = n then z else ρ.sz b⟩
theorem up_at (ρ : Pl) (n g z b : Nat) : (up ρ n g z) b = if b = n then some g else ρ b := rfl
theorem up_new (ρ : Pl) (n g z : Nat) : (up ρ n g z) n = some g := by rw [up_at, if_pos rfl]
theorem up_sz (ρ : Pl) (n g z : Nat) : (up ρ n g z).sz n = z := by show (if n = n then z else ρ.sz n) = z; rw [if_pos rfl]
section
variable {Fr : Nat → Prop} {W w : World} {ρ : Pl} {H : T} {n : Nat}
theorem HR.le (h : HR Fr W ρ H n w) (g z : Nat) : Le ρ (up ρ n g z) := fun b x e => by
  by_cases hb : b = n
  · have := h.new b (by omega); rw [this] at e; cases e
  · refine ⟨by rw [up_at, if_neg hb]; exact e, ?_⟩
    show (if b = n then z else ρ.sz b) = _
    rw [if_neg hb]
/-- A new object. -/
theorem HR.alloc (h : HR Fr W ρ H n w) (o : Obj) {x : Ob} {z : Nat} (hl : Lies (up ρ n w.heap.size z) (w.alloc o) n w.heap.size x) : HR Fr W (up ρ n w.heap.size z) (put H n x) (n + 1) (w.alloc o) := by
  have hsz : (w.alloc o).heap.size = w.heap.size + 1 := by show (w.heap.push o).size = _; simp
  have hnew : (w.alloc o).heap[w.heap.size]? = some o := by show (w.heap.push o)[w.heap.size]? = _; simp
  have hold : ∀ g, g < w.heap.size → (w.alloc o).heap[g]? = w.heap[g]? := fun g hg => by show (w.heap.push o)[g]? = _; rw [Array.getElem?_push_lt hg]; simp [hg]
  have hnn : get H n = .no := by
    by_cases e : get H n = .no
    · exact e
    · obtain ⟨g, e1, _⟩ := h.obj n e
      rw [h.new n (Nat.le_refl _)] at e1; cases e1
  have key : ∀ b, get (put H n x) b ≠ .no → (b = n ∧ get (put H n x) b = x) ∨ (b ≠ n ∧ get (put H n x) b = get H b) := by
    intro b hb
    rcases get_put H n b x with e | ⟨e, e2⟩
    · by_cases hbn : b = n
      · subst hbn; rw [show get (put H b x) b = get H b from e, hnn] at hb; exact absurd rfl hb
      · exact .inr ⟨hbn, e⟩
    · exact .inl ⟨e, e2⟩
  refine ⟨fun b hb => ?_, fun b c g hb hc e1 e2 => ?_, fun b hb => ?_, fun b g e => ?_, fun g hg => ?_, ?_⟩
  · rcases key b hb with ⟨rfl, e⟩ | ⟨hne, e⟩
    · exact ⟨_, up_new .., by rw [e]; exact hl⟩
    · rw [e] at hb ⊢
      obtain ⟨g, e1, hg⟩ := h.obj b hb
      exact ⟨g, (h.le _ _ _ _ e1).1, (hg.mono (h.le _ _) e1).at_ (hold g (h.old b g e1).2)⟩
  · have hx : ∀ b g, get (put H n x) b ≠ .no → (up ρ n w.heap.size z) b = some g → (b = n ∧ g = w.heap.size) ∨ (b ≠ n ∧ ρ b = some g ∧ get H b ≠ .no ∧ g < w.heap.size) := by
      intro b g hb e
      rcases key b hb with ⟨rfl, e3⟩ | ⟨hne, e3⟩
      · rw [up_at, if_pos rfl] at e; exact .inl ⟨rfl, (Option.some.inj e).symm⟩
      · rw [e3] at hb; rw [up_at, if_neg hne] at e; exact .inr ⟨hne, e, hb, (h.old b g e).2⟩
    rcases hx b g hb e1 with ⟨rfl, e3⟩ | ⟨hne, e3, e4, e5⟩
    · rcases hx c g hc e2 with ⟨rfl, _⟩ | ⟨_, _, _, e6⟩
      · rfl
      · omega
    · rcases hx c g hc e2 with ⟨rfl, e6⟩ | ⟨_, e6, e7, _⟩
      · omega
      · exact h.inj b c g e4 e7 e3 e6
  · rw [up_at, if_neg (by omega)]; exact h.new b (by omega)
  · rw [up_at] at e
    by_cases hb : b = n
    · rw [if_pos hb] at e
      have : w.heap.size = g := Option.some.inj e
      subst this
      exact ⟨fun hf => by have := h.frm _ hf; have := h.ext.size; omega, by omega⟩
    · rw [if_neg hb] at e
      exact ⟨(h.old b g e).1, by have := (h.old b g e).2; omega⟩
  · exact ⟨(h.frm g hg).1, (hold g (by have := (h.frm g hg).1; have := h.ext.size; omega)).trans (h.frm g hg).2⟩
  · exact h.ext.trans ⟨rfl, rfl, rfl, by omega, Nat.le_refl _⟩
/-- An object becomes another one. -/
theorem HR.change (h : HR Fr W ρ H n w) {b g : Nat} {x : Ob} {w' : World} (hb : get H b ≠ .no) (hg : ρ b = some g) (hl : Lies ρ w' b g x) (ho : ∀ k, k ≠ g → w'.heap[k]? = w.heap[k]?) (he : Ext w w') : HR Fr W ρ (put H b x) n w' := by
  have key : ∀ c, get (put H b x) c ≠ .no → (get (put H b x) c = get H c ∧ (c = b → get H c = x ∨ True)) ∨ (c = b ∧ get (put H b x) c = x) := by
    intro c hc
    rcases get_put H b c x with e | ⟨e, e2⟩
    · exact .inl ⟨e, fun _ => .inr trivial⟩
    · exact .inr ⟨e, e2⟩
  have live : ∀ c, get (put H b x) c ≠ .no → get H c ≠ .no := by
    intro c hc
    rcases key c hc with ⟨e, _⟩ | ⟨e, _⟩
    · rwa [e] at hc
    · rw [e]; exact hb
  refine ⟨fun c hc => ?_, fun c d k hc hd e1 e2 => h.inj c d k (live c hc) (live d hd) e1 e2, h.new, fun c k e => ⟨(h.old c k e).1, by have := (h.old c k e).2; have := he.size; omega⟩, fun k hk => ⟨(h.frm k hk).1, (ho k fun e => by subst e; exact (h.old b k hg).1 hk).trans (h.frm k hk).2⟩, h.ext.trans he⟩
  obtain ⟨k, e1, e2⟩ := h.obj c (live c hc)
  by_cases hcb : c = b
  · subst hcb
    rw [hg] at e1
    have : g = k := Option.some.inj e1
    subst this
    exact ⟨g, hg, by rw [show get (put H c x) c = x from put_same H c x hb]; exact hl⟩
  · rcases key c hc with ⟨e, _⟩ | ⟨e, _⟩
    · refine ⟨k, e1, ?_⟩
      rw [e]
      exact e2.at_ (ho k fun e3 => hcb (h.inj c b k (live c hc) hb e1 (e3 ▸ hg)))
    · exact absurd e hcb
end
end
end Go.Proofs.YtagbmfdheppmoaaGreatDoor.Vm
