import Derived.Test.YtfcbjcohepkkfaaGreatProg
import Derived.Test.YtfcbjcohepkkfaaGreatP0
import Derived.Test.YtfcbjcohepkkfaaGreatSepE
import Derived.Test.YtfcbjcohepkkfaaGreatSepG
import Derived.Test.YtfcbjcohepkkfaaGreatLay
import Derived.Shelf.SlIter.Nil
import Derived.Shelf.SortM.Plain
import Derived.Shelf.SortM.SortNone
import Derived.Test.YtfcbjcohepkkfaaGreatSepY
namespace Go.Proofs.YtfcbjcohepkkfaaGreat.B
open Go.RowKit Go.Maps Go.Sort Go.Shelf Go.Proofs.YtfcbjcohepkkfaaGreat.Sep Go.Proofs.YtfcbjcohepkkfaaGreat.P
set_option linter.unusedVariables false
set_option linter.unusedSimpArgs false

theorem elt48 : Elt Tryz.prog 48 77 4 48 := ⟨by kernel_rfl, by kernel_rfl⟩
theorem zs48 : (Tryz.prog.info? 77).bind (fun i => i.zero.map (·.cells)) = some #[.int .i64 0, .int .i64 0, .int .i64 0, .slice none 0 0] := by kernel_rfl
theorem elt75 : Elt Tryz.prog 75 79 7 104 := ⟨by kernel_rfl, by kernel_rfl⟩
theorem zs75 : (Tryz.prog.info? 79).bind (fun i => i.zero.map (·.cells)) = some #[.int .i64 0, .string (str []), .string (str []), .string (str []), .string (str []), .bool false, .slice none 0 0] := by kernel_rfl
theorem elt54 : Elt Tryz.prog 54 3 1 8 := ⟨by kernel_rfl, by kernel_rfl⟩
theorem zs54 : (Tryz.prog.info? 3).bind (fun i => i.zero.map (·.cells)) = some #[.int .i64 0] := by kernel_rfl
theorem elt33 : Elt Tryz.prog 33 115 2 32 := ⟨by kernel_rfl, by kernel_rfl⟩
theorem zs33 : (Tryz.prog.info? 115).bind (fun i => i.zero.map (·.cells)) = some #[.string (str []), .string (str [])] := by kernel_rfl
theorem elt58 : Elt Tryz.prog 58 97 4 48 := ⟨by kernel_rfl, by kernel_rfl⟩
theorem zs58 : (Tryz.prog.info? 97).bind (fun i => i.zero.map (·.cells)) = some #[.int .i64 0, .int .i64 0, .int .i64 0, .slice none 0 0] := by kernel_rfl
theorem elt95 : Elt Tryz.prog 95 99 7 104 := ⟨by kernel_rfl, by kernel_rfl⟩
theorem zs95 : (Tryz.prog.info? 99).bind (fun i => i.zero.map (·.cells)) = some #[.int .i64 0, .string (str []), .string (str []), .string (str []), .string (str []), .bool false, .slice none 0 0] := by kernel_rfl
/-- What was done, as it lies: where its rows lie, and their capacity. -/
structure Dd where
 t : Td
 A : Option Addr
 c : Nat
deriving Inhabited
structure Dn where
 id : Int
 wall : Int
 logic : Int
 A : Option Addr
 c : Nat
 l : List Dd
deriving Inhabited
def Dn.t (d : Dn) : Tn := ⟨d.id, d.wall, d.logic, d.l.map (·.t)⟩
abbrev tns (ds : List Dn) : List Tn := ds.map (·.t)
abbrev rv (r : Rw) : List Value := [.string (str r.key), .string (str r.val)]
def rws (l : List Rw) : List Value := l.flatMap rv
abbrev dv (d : Dd) : List Value := [.int .i64 d.t.op, .string (str d.t.key), .string (str d.t.val), .string (str d.t.frm), .string (str d.t.to), .bool d.t.is, .slice d.A d.t.rows.length d.c]
def dvs (l : List Dd) : List Value := l.flatMap dv
abbrev nv (d : Dn) : List Value := [.int .i64 d.id, .int .i64 d.wall, .int .i64 d.logic, .slice d.A d.l.length d.c]
def nvs (l : List Dn) : List Value := l.flatMap nv
theorem flatMap_at {α : Type} {f : α → List Value} {n : Nat} (hf : ∀ x, (f x).length = n) {l : List α} {k : Nat} {s : α} (h : l[k]? = some s) {j : Nat} (hj : j < n) : (l.flatMap f)[k * n + j]? = (f s)[j]? := by
 rw [List.flatMap_def]
 exact flatten_at (k := n) (fun r hr => by obtain ⟨d, _, rfl⟩ := List.mem_map.1 hr; exact hf d) (by rw [List.getElem?_map, h]; rfl) hj
theorem flatMap_len {α : Type} {f : α → List Value} {n : Nat} (hf : ∀ x, (f x).length = n) (l : List α) : (l.flatMap f).length = l.length * n := by
 rw [List.flatMap_def, flatten_len (k := n) (fun r hr => by obtain ⟨x, _, rfl⟩ := List.mem_map.1 hr; exact hf x)]; simp
theorem rws_at {l : List Rw} {k : Nat} {s : Rw} (h : l[k]? = some s) {j : Nat} (hj : j < 2) : (rws l)[k * 2 + j]? = (rv s)[j]? := flatMap_at (f := rv) (n := 2) (fun _ => rfl) h hj
theorem dvs_at {l : List Dd} {k : Nat} {s : Dd} (h : l[k]? = some s) {j : Nat} (hj : j < 7) : (dvs l)[k * 7 + j]? = (dv s)[j]? := flatMap_at (f := dv) (n := 7) (fun _ => rfl) h hj
theorem nvs_at {l : List Dn} {k : Nat} {s : Dn} (h : l[k]? = some s) {j : Nat} (hj : j < 4) : (nvs l)[k * 4 + j]? = (nv s)[j]? := flatMap_at (f := nv) (n := 4) (fun _ => rfl) h hj
theorem rws_len (l : List Rw) : (rws l).length = l.length * 2 := flatMap_len (f := rv) (n := 2) (fun _ => rfl) l
theorem nvs_len (l : List Dn) : (nvs l).length = l.length * 4 := flatMap_len (f := nv) (n := 4) (fun _ => rfl) l
theorem rws_append (l m : List Rw) : rws (l ++ m) = rws l ++ rws m := by simp [rws]
theorem rws_one (l : List Rw) : ∀ u ∈ rws l, u.oneCell' = true := by
 intro u hu
 obtain ⟨s, _, h⟩ := List.mem_flatMap.1 hu
 simp [rv] at h
 rcases h with rfl | rfl <;> rfl
theorem take_snoc {α : Type} {l : List α} {k : Nat} {x : α} (h : l[k]? = some x) : l.take (k + 1) = l.take k ++ [x] := by
 obtain ⟨hk, rfl⟩ := List.getElem?_eq_some_iff.1 h
 exact List.take_succ_eq_append_getElem hk
/-- How what was done lies in memory. -/
def DidsIn (A : Option Addr) (l : List Dd) (w : World) : Prop := Reads w 7 A l.length (dvs l) ∧ ∀ x ∈ l, Reads w 2 x.A x.t.rows.length (rws x.t.rows)
def DonesIn (A : Option Addr) (ds : List Dn) (w : World) : Prop := Reads w 4 A ds.length (nvs ds) ∧ ∀ d ∈ ds, DidsIn d.A d.l w
/-- Lengths that may be. -/
def Bl (l : List Dd) : Prop := l.length ≤ 140737488351232 ∧ ∀ x ∈ l, x.t.rows.length ≤ 140737488351232 ∧ x.t.key.length ≤ 140737488351232
def Bn (ds : List Dn) : Prop := ds.length ≤ 140737488351232 ∧ ∀ d ∈ ds, Bl d.l
theorem DonesIn.row {A : Option Addr} {ds : List Dn} {w : World} (h : DonesIn A ds w) {i : Nat} {d : Dn} (hi : ds[i]? = some d) : DidsIn d.A d.l w := h.2 d (List.mem_of_getElem? hi)
theorem DidsIn.row {A : Option Addr} {ds : List Dd} {w : World} (h : DidsIn A ds w) {i : Nat} {d : Dd} (hi : ds[i]? = some d) : Reads w 2 d.A d.t.rows.length (rws d.t.rows) := h.2 d (List.mem_of_getElem? hi)
theorem Bn.row {ds : List Dn} (h : Bn ds) {i : Nat} {d : Dn} (hi : ds[i]? = some d) : Bl d.l := h.2 d (List.mem_of_getElem? hi)
theorem Bl.row {ds : List Dd} (h : Bl ds) {i : Nat} {d : Dd} (hi : ds[i]? = some d) : d.t.rows.length ≤ 140737488351232 ∧ d.t.key.length ≤ 140737488351232 := h.2 d (List.mem_of_getElem? hi)
theorem tns_at {ds : List Dn} {i : Nat} {d : Dn} (h : ds[i]? = some d) : (tns ds)[i]? = some d.t := by simp [tns, h]
theorem tAt_of {ds : List Dn} {i : Nat} {d : Dn} (h : ds[i]? = some d) : tAt (tns ds) i = d.t := by
 unfold tAt; rw [List.getD_eq_getElem?_getD, tns_at h]; rfl
/-! ### keys that are texts -/
def encS (k : List UInt8) : Value := .string (str k)
theorem encS_inj (a b : List UInt8) (h : encS a = encS b) : a = b := by
 simp only [encS, Value.string.injEq] at h
 exact str_inj h
end Go.Proofs.YtfcbjcohepkkfaaGreat.B
