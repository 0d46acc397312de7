import Derived.Test.YtagbmfdheppmoaaGreatDoorVmZ
import Derived.Test.YtagbmfdheppmoaaGreatDoorProg
import Derived.Test.YtagbmfdheppmoaaGreatDoorSepO
import Derived.Test.YtagbmfdheppmoaaGreatDoorC0
import Derived.Test.YtagbmfdheppmoaaGreatDoorC1
import Derived.KernelRfl
/-
  ShardLow: the machine runs the law with numbers that are open; its tests part their ranges.
-/
namespace Go.Proofs.YtagbmfdheppmoaaGreatDoor.Vm
set_option linter.unusedVariables false
set_option linter.unusedSimpArgs false
set_option linter.unusedSectionVars false
open Go.RowKit Go.Proofs.YtagbmfdheppmoaaGreatDoor.Sep
noncomputable section
def isVar (a : Af) (i : Nat) : Bool := ieq a.c 0 && lEq a.l (unit_ 1 i)
/-- What is known of Bring's calls, and of the examples. -/
def lowRule (f : FuncId) (args : List V) : Option V := match Nat.beq f 27 with
  | true => (match args with
    | [x, y] => (match x with
      | .isym k a => (match y with
        | .int k' n => (match k == .i64 && k' == .i64 with
          | true => (match isVar a 0 && ieq n 40 with
            | true => some (.isym .i64 ⟨0, [0, 0, 0, 1]⟩)
            | false => (match isVar a 1 && ieq n 40 with
              | true => some (.isym .i64 ⟨0, [0, 0, 0, 0, 1]⟩)
              | false => (match isVar a 2 && ieq n 50 with
                | true => some (.isym .i64 ⟨0, [0, 0, 0, 0, 0, 1]⟩)
                | false => none)))
          | false => none)
        | _ => none)
      | _ => none)
    | _ => none)
  | false => (match Nat.beq f 14 with | true => (match args with | [] => some (.bool true) | _ => none) | false => none)
def lowVal (a b c : Int) (i : Nat) : Int := match i with | 0 => a | 1 => b | 2 => c | 3 => a % 40 | 4 => b % 40 | 5 => c % 50 | _ => 0
abbrev Hold (σ : Nat → Int) (fs : List (List Int × Int)) : Prop := ∀ p ∈ fs, p.2 ≤ dotF σ p.1 0
theorem hold_nil (σ : Nat → Int) : Hold σ [] := fun p h => (by cases h)
theorem hold_cons {σ : Nat → Int} {l : List Int} {c : Int} {fs : List (List Int × Int)} (h : c ≤ dotF σ l 0) (k : Hold σ fs) : Hold σ ((l, c) :: fs) := fun p hp => by
  rcases List.mem_cons.1 hp with rfl | hp
  · exact h
  · exact k p hp
abbrev VL (fs : List (List Int × Int)) (σ : Nat → Int) (h : Hold σ fs) : Vl := ⟨fs, σ, h, lowRule⟩
theorem isVar_eval [Vl] {a : Af} {i : Nat} (h : isVar a i = true) : a.eval = Vl.val i := by
  unfold isVar at h
  rw [Bool.and_eq_true] at h
  have h1 := ieq_iff.1 h.1
  have h2 := lEq_dot h.2 0
  rw [dot_unit] at h2
  unfold Af.eval
  rw [h1, h2, Nat.zero_add]; omega
theorem gx_old {w w' : World} {L : List Chunk} (s : St w (Old w :: L) w') : Gx w w' := ⟨s.2, (Old.below s).block⟩
theorem bring_gx (i n : Int) (hn : 0 < n) (hb : n ≤ 1000000) (w : World) (m : Nat) : CallsIn (FW none) m Tryz.prog 27 #[.int .i64 i, .int .i64 n] w fun e w' => e = .returned (.int .i64 (i % n)) ∧ Gx w w' :=
  callsIn_wide.2 ((B.bring_pos w [Old w] w i n hn hb (Old.start w)).mono fun e w' ⟨h, s⟩ => ⟨h, gx_old s⟩)
theorem low_rules (a b c : Int) (fs : List (List Int × Int)) (h : Hold (lowVal a b c) fs) : @RuleOk (VL fs _ h) Tryz.prog := by
  letI := VL fs _ h
  intro f args v hv ρ Args w m d
  replace hv : lowRule f args = some v := hv
  unfold lowRule at hv
  split at hv
  · rename_i hf
    have hf := Nat.eq_of_beq_eq_true hf
    subst hf
    split at hv
    · rename_i x y
      obtain ⟨X, Xs, rfl, d1, d2⟩ := d.inv
      obtain ⟨Y, Ys, rfl, d3, d4⟩ := d2.inv
      have := d4.inv0
      subst this
      split at hv
      · rename_i k al
        split at hv
        · rename_i k' n
          split at hv
          · rename_i hk
            simp only [Bool.and_eq_true, beq_iff_eq] at hk
            obtain ⟨rfl, rfl⟩ := hk
            have e1 : X = .int .i64 al.eval := by cases d1; rfl
            have e2 : Y = .int .i64 n := by cases d3; rfl
            subst e1
            subst e2
            have go : ∀ (i j : Nat) (q : Int) (l : List Int), isVar al i = true → n = q → 0 < q → q ≤ 1000000 → (⟨0, l⟩ : Af).eval = Vl.val i % q → v = .isym .i64 ⟨0, l⟩ → CallsIn (FW none) m Tryz.prog 27 #[.int .i64 al.eval, .int .i64 n] w fun e w' => ∃ x, e = .returned x ∧ Den ρ v x ∧ Gx w w' := by
              intro i j q l hi hn h0 h1 he hv
              subst hn
              rw [isVar_eval hi]
              refine CallsIn.mono (F := FW none) (bring_gx (Vl.val i) n h0 h1 w m) fun e w' ⟨h2, h3⟩ => ⟨_, h2, ?_, h3⟩
              rw [hv, ← he]; exact .isym _ _
            split at hv
            · rename_i hq
              rw [Bool.and_eq_true] at hq
              exact go 0 3 40 [0, 0, 0, 1] hq.1 (ieq_iff.1 hq.2) (by decide) (by decide) (by show (0 : Int) + (0 * a + (0 * b + (0 * c + (1 * (a % 40) + 0)))) = a % 40; omega) (Option.some.inj hv).symm
            · split at hv
              · rename_i hq
                rw [Bool.and_eq_true] at hq
                exact go 1 4 40 [0, 0, 0, 0, 1] hq.1 (ieq_iff.1 hq.2) (by decide) (by decide) (by show (0 : Int) + (0 * a + (0 * b + (0 * c + (0 * (a % 40) + (1 * (b % 40) + 0))))) = b % 40; omega) (Option.some.inj hv).symm
              · split at hv
                · rename_i hq
                  rw [Bool.and_eq_true] at hq
                  exact go 2 5 50 [0, 0, 0, 0, 0, 1] hq.1 (ieq_iff.1 hq.2) (by decide) (by decide) (by show (0 : Int) + (0 * a + (0 * b + (0 * c + (0 * (a % 40) + (0 * (b % 40) + (1 * (c % 50) + 0)))))) = c % 50; omega) (Option.some.inj hv).symm
                · cases hv
          · cases hv
        · cases hv
      · cases hv
    · cases hv
  · split at hv
    · rename_i hf
      have hf := Nat.eq_of_beq_eq_true hf
      subst hf
      split at hv
      · have := d.inv0
        subst this
        cases hv
        exact callsIn_wide.2 ((awake_true w).mono fun e w' ⟨h1, h2⟩ => ⟨_, h1, .bool true, h2⟩)
      · cases hv
    · cases hv
abbrev lowArgs : List V := [.isym .i64 ⟨0, [1]⟩, .isym .i64 ⟨0, [0, 1]⟩, .isym .i64 ⟨0, [0, 0, 1]⟩]
abbrev lowRun (fs : List (List Int × Int)) (σ : Nat → Int) (h : Hold σ fs) : Bool := isT (callV (@run (VL fs σ h) Tryz.prog 400) Tryz.prog 7 lowArgs T0 0)
theorem low_leaf (a b c : Int) (w : World) {fs : List (List Int × Int)} (k : ∀ h, lowRun fs (lowVal a b c) h = true) (h : Hold (lowVal a b c) fs) : Calls Tryz.prog 7 #[.int .i64 a, .int .i64 b, .int .i64 c] w fun e w' => e = .returned (.bool true) ∧ Gx w w' := by
  letI := VL fs _ h
  have e0 : (⟨0, [1]⟩ : Af).eval = a := by show (0 : Int) + (1 * a + 0) = a; omega
  have e1 : (⟨0, [0, 1]⟩ : Af).eval = b := by show (0 : Int) + (0 * a + (1 * b + 0)) = b; omega
  have e2 : (⟨0, [0, 0, 1]⟩ : Af).eval = c := by show (0 : Int) + (0 * a + (0 * b + (1 * c + 0))) = c; omega
  have d : DL P0 lowArgs [.int .i64 a, .int .i64 b, .int .i64 c] := by
    refine .cons ?_ (.cons ?_ (.cons ?_ .nil))
    · have := Den.isym (ρ := P0) .i64 (⟨0, [1]⟩ : Af); rwa [e0] at this
    · have := Den.isym (ρ := P0) .i64 (⟨0, [0, 1]⟩ : Af); rwa [e1] at this
    · have := Den.isym (ρ := P0) .i64 (⟨0, [0, 0, 1]⟩ : Af); rwa [e2] at this
  exact callsIn_wide.1 (closed_true (low_rules a b c fs h) (k h) d w 0)

end
end Go.Proofs.YtagbmfdheppmoaaGreatDoor.Vm
