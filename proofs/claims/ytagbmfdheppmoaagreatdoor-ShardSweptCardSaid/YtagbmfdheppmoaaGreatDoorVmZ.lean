import Derived.Test.YtagbmfdheppmoaaGreatDoorVmI
/-
  What a run of the machine tells of a call.
-/
namespace Go.Proofs.YtagbmfdheppmoaaGreatDoor.Vm
set_option linter.unusedVariables false
set_option linter.unusedSimpArgs false
set_option linter.unusedSectionVars false
open Go.RowKit Go.Proofs.YtagbmfdheppmoaaGreatDoor.Sep
noncomputable section
/-- It came to the value true. -/
def isT (r : Cr) : Bool := match r with | .ok v _ _ => (match v with | .bool b => b | _ => false) | .bad _ => false
def P0 : Pl := ⟨fun _ => none, fun _ => 0⟩
section
variable [Vl] {P : Program}
theorem HS.zero (w : World) : HS P0 T0 0 w :=
  ⟨fun b hb => absurd (get_T0 b) hb, fun b c g hb => absurd (get_T0 b) hb, fun _ _ => rfl, fun _ _ h => (by cases h), fun g hg => ⟨hg.1, rfl⟩, Ext.refl w⟩
theorem closed_true (hR : RuleOk P) {k : Nat} {f : FuncId} {args : List V} {Args : List Value} (h : isT (callV (run P k) P f args T0 0) = true) (d : DL P0 args Args) (w : World) (m : Nat) :
    CallsIn (FW none) m P f Args.toArray w fun e w' => e = .returned (.bool true) ∧ Gx w w' := by
  unfold isT at h
  split at h
  · rename_i v H n hc
    split at h
    · rename_i b
      subst h
      refine CallsIn.mono (F := FW none) (call_in (ran_in hR k) (HS.zero w) d hc m) fun e w' hr => ?_
      obtain ⟨ρ', x, rfl, tr, _, dx⟩ := hr
      have := den_bool dx
      subst this
      exact ⟨rfl, tr.ext, fun g hg => (tr.out g ⟨hg, fun b e => (by cases e)⟩).1⟩
    · cases h
  · cases h
end
/-- Nothing is known. -/
abbrev V0 : Vl := ⟨[], fun _ => 0, fun p h => (by cases h), fun _ _ => none⟩
theorem V0.rules (P : Program) : @RuleOk V0 P := fun f args v h => by cases h
theorem closed_calls {P : Program} {k : Nat} {f : FuncId} (h : isT (callV (@run V0 P k) P f [] T0 0) = true) (w : World) : Calls P f #[] w fun e w' => e = .returned (.bool true) ∧ Gx w w' := by
  letI := V0
  exact callsIn_wide.1 (closed_true (V0.rules P) h DL.nil w 0)
end
end Go.Proofs.YtagbmfdheppmoaaGreatDoor.Vm
