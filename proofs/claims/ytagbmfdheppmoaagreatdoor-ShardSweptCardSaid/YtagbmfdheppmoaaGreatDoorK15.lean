import Derived.Test.YtagbmfdheppmoaaGreatDoorK14
import Derived.Test.YtagbmfdheppmoaaGreatDoorSepD
/-
  ShardSwept at whatever world; its arguments opened.
-/
namespace Go.Proofs.YtagbmfdheppmoaaGreatDoor.B
open Go.RowKit Go.Proofs.YtagbmfdheppmoaaGreatDoor.Sep
set_option linter.unusedVariables false
set_option linter.unusedSimpArgs false
theorem swept_true (a0 a1 : Int) (g0 g1 : Bool) (to_ : Int) (w : World) : Calls Tryz.prog 8 #[.agg #[.int .i64 a0, .int .i64 a1], .agg #[.bool g0, .bool g1], .int .i64 to_] w fun e w' => e = .returned (.bool true) ∧ Vm.Gx w w' :=
  (swept_any w [Old w] w a0 a1 g0 g1 to_ (Old.start w)).mono fun e w' ⟨h, s⟩ => ⟨h, s.2, (Old.below s).block⟩
set_option maxRecDepth 100000 in
theorem open_ints2 {W : World} {a : Array Value} (hl : a.size = 2) (h : Came Tryz.prog W 98 (Value.agg a).cells.toList) : ∃ p0 p1 : Int, a = #[.int .i64 p0, .int .i64 p1] := by
  obtain ⟨_, h⟩ := Came.array (k := 1) Tryz.underlying98 (by kernel_rfl) h
  obtain ⟨l⟩ := a
  match l, hl with
  | [a0, a1], _ =>
    have h0 := h 0 (by omega)
    have h1 := h 1 (by omega)
    obtain ⟨z0, e0, _⟩ := Came.int Tryz.underlying3 h0
    obtain ⟨z1, e1, _⟩ := Came.int Tryz.underlying3 h1
    have q0 : a0 = .int .i64 z0 := (List.cons.inj (show [a0] = [_] from e0)).1
    have q1 : a1 = .int .i64 z1 := (List.cons.inj (show [a1] = [_] from e1)).1
    exact ⟨z0, z1, by rw [q0, q1]⟩
set_option maxRecDepth 100000 in
theorem open_bools2 {W : World} {a : Array Value} (hl : a.size = 2) (h : Came Tryz.prog W 99 (Value.agg a).cells.toList) : ∃ p0 p1 : Bool, a = #[.bool p0, .bool p1] := by
  obtain ⟨_, h⟩ := Came.array (k := 1) Tryz.underlying99 (by kernel_rfl) h
  obtain ⟨l⟩ := a
  match l, hl with
  | [a0, a1], _ =>
    have h0 := h 0 (by omega)
    have h1 := h 1 (by omega)
    obtain ⟨z0, e0⟩ := Came.bool Tryz.underlying4 h0
    obtain ⟨z1, e1⟩ := Came.bool Tryz.underlying4 h1
    have q0 : a0 = .bool z0 := (List.cons.inj (show [a0] = [_] from e0)).1
    have q1 : a1 = .bool z1 := (List.cons.inj (show [a1] = [_] from e1)).1
    exact ⟨z0, z1, by rw [q0, q1]⟩
end Go.Proofs.YtagbmfdheppmoaaGreatDoor.B
