import Derived.Test.YtagbmfdheppmoaaGreatDoorVmZ
import Derived.Test.YtagbmfdheppmoaaGreatDoorSepO
import Derived.Test.YtagbmfdheppmoaaGreatDoorProg
import Derived.KernelRfl
/-
  Pure calls: what the machine's run of a call tells, where nothing in memory is looked at, and one number is open.
-/
namespace Go.Proofs.YtagbmfdheppmoaaGreatDoor.Vm
set_option linter.unusedVariables false
set_option linter.unusedSimpArgs false
set_option linter.unusedSectionVars false
open Go.RowKit Go.Proofs.YtagbmfdheppmoaaGreatDoor.Sep
noncomputable section
def crV (r : Cr) : Option V := match r with | .ok v _ _ => some v | .bad _ => none
theorem closed_val [Vl] {P : Program} (hR : RuleOk P) {k : Nat} {f : FuncId} {args : List V} {Args : List Value} {v : V} (h : crV (callV (run P k) P f args T0 0) = some v) (d : DL P0 args Args) (X : Value) (hX : ∀ ρ, Den ρ v X) (w : World) :
    Calls P f Args.toArray w fun e w' => e = .returned X ∧ Gx w w' := by
  unfold crV at h
  split at h
  · rename_i v' H n hc
    cases h
    refine callsIn_wide.1 (CallsIn.mono (F := FW none) (call_in (ran_in hR k) (HS.zero w) d hc 0) fun e w' hr => ?_)
    obtain ⟨ρ', x, rfl, tr, _, dx⟩ := hr
    rw [dx.fun_ (hX ρ')]
    exact ⟨rfl, tr.ext, fun g hg => (tr.out g ⟨hg, fun b e => (by cases e)⟩).1⟩
  · cases h
/-- A call that looks at nothing and turns nothing. -/
def Pure (f : FuncId) (args : List Value) (X : Value) : Prop := ∀ (W : World) (L : List Chunk) (w : World), St W L w → Calls Tryz.prog f args.toArray w fun e w' => e = .returned X ∧ St W L w'
theorem st_gx {W w w' : World} {L : List Chunk} (s : St W L w) (g : Gx w w') : St W L w' := by
  refine ⟨SatH.mono s.1 fun k o h => ?_, s.2.trans g.ext⟩
  have h : w.heap[k]? = some o := h
  exact (g.old k (Array.getElem?_eq_some_iff.1 h).1).trans h
theorem pure_of {f : FuncId} {args : List Value} {X : Value} (h : ∀ w, Calls Tryz.prog f args.toArray w fun e w' => e = .returned X ∧ Gx w w') : Pure f args X := fun W L w s => (h w).mono fun e w' ⟨a, g⟩ => ⟨a, st_gx s g⟩
/-- Numbers that are open. -/
abbrev Hold (σ : Nat → Int) (fs : List (List Int × Int)) : Prop := ∀ p ∈ fs, p.2 ≤ dotF σ p.1 0
theorem hold_nil (σ : Nat → Int) : Hold σ [] := fun p h => (by cases h)
theorem hold_cons {σ : Nat → Int} {l : List Int} {c : Int} {fs : List (List Int × Int)} (h : c ≤ dotF σ l 0) (k : Hold σ fs) : Hold σ ((l, c) :: fs) := fun p hp => by
  rcases List.mem_cons.1 hp with rfl | hp
  · exact h
  · exact k p hp
abbrev VK (fs : List (List Int × Int)) (σ : Nat → Int) (h : Hold σ fs) : Vl := ⟨fs, σ, h, fun _ _ => none⟩
section
variable {fs : List (List Int × Int)} {σ : Nat → Int} {h : Hold σ fs}
theorem VK.rules : @RuleOk (VK fs σ h) Tryz.prog := fun f args v h => by cases h
theorem VK.eval0 (c : Int) : @Af.eval (VK fs σ h) ⟨c, []⟩ = c := by show c + 0 = _; omega
theorem VK.eval1 (c k : Int) : @Af.eval (VK fs σ h) ⟨c, [k]⟩ = c + k * σ 0 := by show c + (k * σ 0 + 0) = _; omega
theorem VK.eval2 (c k l : Int) : @Af.eval (VK fs σ h) ⟨c, [k, l]⟩ = c + k * σ 0 + l * σ 1 := by show c + (k * σ 0 + (l * σ 1 + 0)) = _; omega
theorem VK.byte0 (c : Int) : @Af.byte (VK fs σ h) ⟨c, []⟩ = UInt8.ofNat c.toNat := by unfold Af.byte; rw [VK.eval0]
theorem VK.byte1 (c k : Int) : @Af.byte (VK fs σ h) ⟨c, [k]⟩ = UInt8.ofNat (c + k * σ 0).toNat := by unfold Af.byte; rw [VK.eval1]
theorem VK.int (ρ : Pl) (k : IntKind) (a : Af) (n : Int) (e : @Af.eval (VK fs σ h) a = n) : @Den (VK fs σ h) ρ (.isym k a) (.int k n) := e ▸ @Den.isym (VK fs σ h) ρ k a
theorem VK.txt (ρ : Pl) (l : List Af) (s : List UInt8) (e : l.map (@Af.byte (VK fs σ h)) = s) : @Den (VK fs σ h) ρ (.ystr l) (.string (Sep.str s)) := e ▸ @Den.ystr (VK fs σ h) ρ l
theorem VK.str (ρ : Pl) (s : List UInt8) : @Den (VK fs σ h) ρ (.str s) (.string (Sep.str s)) := @Den.str (VK fs σ h) ρ s
abbrev runK (fs : List (List Int × Int)) (σ : Nat → Int) (h : Hold σ fs) (f : FuncId) (args : List V) : Option V := letI := VK fs σ h; crV (callV (run Tryz.prog 400) Tryz.prog f args T0 0)
theorem pureK {f : FuncId} {args : List V} {Args : List Value} {v : V} {X : Value} (hr : runK fs σ h f args = some v) (d : @DL (VK fs σ h) P0 args Args) (hX : ∀ ρ, @Den (VK fs σ h) ρ v X) : Pure f Args X := by
  letI := VK fs σ h
  exact pure_of fun w => closed_val VK.rules hr d X hX w
end
abbrev one (lo hi : Int) : List (List Int × Int) := [([1], lo), ([-1], -hi)]
theorem hold1 {lo hi i : Int} (h : lo ≤ i ∧ i ≤ hi) : Hold (fun _ => i) (one lo hi) :=
  hold_cons (by show lo ≤ 1 * i + 0; omega) (hold_cons (by show -hi ≤ -1 * i + 0; omega) (hold_nil _))
end
end Go.Proofs.YtagbmfdheppmoaaGreatDoor.Vm
