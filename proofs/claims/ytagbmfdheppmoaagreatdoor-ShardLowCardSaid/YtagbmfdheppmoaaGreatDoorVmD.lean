import Derived.Test.YtagbmfdheppmoaaGreatDoorVmC
import Derived.RangeFuncRecord
/-
  The machine's code: lists of operations, calls, what a function leaves behind.
-/
namespace Go.Proofs.YtagbmfdheppmoaaGreatDoor.Vm
set_option linter.unusedVariables false
set_option linter.unusedSimpArgs false
set_option linter.unusedSectionVars false
open Go.RowKit Go.Proofs.YtagbmfdheppmoaaGreatDoor.Sep
noncomputable section
variable [Vl]
/-- Why it goes no further: a sum of which it is not known whether it is positive; an operation; code. -/
inductive Why where
  | pos (a : Af)
  | op (o : Oper)
  | code (c : Code)
  | nb (n : Nat)
inductive Re where
  | norm (E : En) (H : T) (n : Nat)
  | exit (id : Nat) (E : En) (H : T) (n : Nat)
  | ret (E : En) (H : T) (n : Nat)
  | bad (y : Why)
/-- What comes of a call. -/
inductive Cr where
  | ok (v : V) (H : T) (n : Nat)
  | bad (y : Why)
/-- How code is carried out, in a function with so many temporaries. -/
abbrev X := Nat → Code → En → T → Nat → Re
def unV : V := .tup []
def setD (d : Option Tmp) (v : V) (E : En) : En := match d with | some d => setE E d v | none => E
def inN (N : Nat) (d : Option Tmp) : Bool := match d with | some d => Nat.blt d N | none => true
def guB_ (v : V) (want : Bool) : Option Bool := match v with | .bool b => some (b == want) | .bsym _ => none | _ => some false
def guardV (ops : List Oper) (E : En) (o : Oper) : Option Bool := match o.guard with
  | none => some true
  | some (j, want) => (match nth ops j with
    | some q => (match q.dst with
      | some d => (match look E d with | some v => guB_ v want | none => none)
      | none => none)
    | none => none)
def whyG (ops : List Oper) (E : En) (o : Oper) : Why := match o.guard with
  | none => .op o
  | some (j, _) => (match nth ops j with
    | some q => (match q.dst with
      | some d => (match look E d with | some (.bsym c) => .pos (askC c) | _ => .op o)
      | none => .op o)
    | none => .op o)
def funT (P : Program) (g : FuncId) : Option (Func × Code) := match nth P.funcs.toList g with
  | some fn => (match fn.name == "runtime.NumGoroutine" with
    | false => (match fn.body with | some c => some (fn, c) | none => none)
    | true => none)
  | none => none
def envOf (l : List V) : Nat → En := List.rec (motive := fun _ => Nat → En) (fun _ => E0) (fun v _ ih k => setE (ih (Nat.add k 1)) k v) l
def resV (P : Program) (E : En) (H : T) (r : ResultVar) : Option V := match r with | .tmp t => look E t | .cell t ty => loadV P H ty (look E t)
def resL (P : Program) (E : En) (H : T) (rs : List ResultVar) : Option V := match oall (resV P E H) rs with
  | some l => (match l with | [v] => some v | l => some (.tup l))
  | none => none
def leaveV (P : Program) (rs : List ResultVar) (r : Re) : Cr := match r with
  | .norm E H n => (match resL P E H rs with | some v => .ok v H n | none => .bad (.nb 1))
  | .ret E H n => (match resL P E H rs with | some v => .ok v H n | none => .bad (.nb 1))
  | .exit _ _ _ _ => .bad (.nb 2)
  | .bad y => .bad y
def callV (ih : X) (P : Program) (g : FuncId) (args : List V) (H : T) (n : Nat) : Cr := match funT P g with
  | some (fn, c) => (match Nat.ble (len args) fn.ntmps with
    | true => leaveV P fn.results.toList (ih fn.ntmps c (envOf args 0) H n)
    | false => .bad (.nb 3))
  | none => .bad (.nb 4)
/-- A function of the library without a body. -/
def extV (P : Program) (g : FuncId) (args : List V) (H : T) (n : Nat) : Cr := match oall toV args with
  | some l => (match still P (callFunc g l.toArray) with
    | some (.value r) => (match ofV r with | some v => .ok v H n | none => .bad (.nb 8))
    | _ => .bad (.nb 9))
  | none => .bad (.nb 10)
/-! ### loops over functions -/
def noRf (c : Code) : Bool := Code.rec (motive := fun _ => Bool) true (fun _ _ _ => true) (fun _ _ a b => match a with | true => b | false => false) (fun _ _ _ a b => match a with | true => b | false => false) (fun _ _ a => a) (fun _ a => a) (fun _ _ _ _ _ _ => false) (fun _ => true) (fun _ a => a) (fun _ => true) (fun _ => true) true (fun _ => true) c
def setPs (N : Nat) (ps : List Nat) : List V → En → Option En := List.rec (motive := fun _ => List V → En → Option En) (fun vs E => match vs with | [] => some E | _ => none) (fun p _ ih vs E => match vs with
  | [] => none
  | v :: vs => (match Nat.blt p N with | true => ih vs (setE E p v) | false => none)) ps
def endR (H : T) (b n : Nat) (j : Option Code) : Cr := match get H b with
  | .loop _ _ N E ps sg bd => .ok (.bool j.isNone) (put H b (.loop (bif j.isNone then 0 else 2) j N E ps sg bd)) n
  | _ => .bad (.nb 5)
def roundE (b : Nat) (r : Re) : Cr := match r with
  | .norm _ H n => endR H b n none
  | .exit id _ H n => endR H b n (some (.exit id))
  | .ret _ H n => endR H b n (some .ret)
  | .bad y => .bad y
def round2 (ih : X) (b N : Nat) (bd : Code) (r : Re) : Cr := match r with
  | .norm E H n => (match get H b with
    | .loop st pd N' E' ps' sg' bd' => (match Nat.beq st 0 with
      | true => roundE b (ih N bd E (put H b (.loop 1 pd N' E' ps' sg' bd')) n)
      | false => .bad (.nb 6))
    | _ => .bad (.nb 6))
  | .bad y => .bad y
  | _ => .bad (.nb 6)
def yieldV (ih : X) (b : Nat) (args : List V) (H : T) (n : Nat) : Cr := match get H b with
  | .loop _ _ N E ps sg bd => (match noRf sg && noRf bd with
    | true => (match setPs N ps args E with
      | some E1 => round2 ih b N bd (ih N sg E1 H n)
      | none => .bad (.nb 7))
    | false => .bad (.nb 7))
  | _ => .bad (.nb 7)
/-! ### deferred calls: only the marks of loops over functions -/
def mark (r : Nat) : Deferred := { target := .collected r, args := #[] }
structure Mk (B : Nat) (ρ : Pl) (w : World) (ds : List Deferred) : Prop where
  ok : ∃ rs : List Nat, ds = rs.map mark ∧ rs.Nodup ∧ ∀ r ∈ rs, B ≤ r ∧ Out_ ρ w r ∧ w.heap[r]? = some (.deferred (some []))
  low : B ≤ w.heap.size
section
variable {P : Program} {W w : World} {ρ : Pl} {H : T} {n : Nat} {a : Act} {N : Nat} {E : En} {o : Oper}
theorem Mk.nil (ρ : Pl) (w : World) : Mk w.heap.size ρ w [] := ⟨⟨[], rfl, List.nodup_nil, fun r h => by cases h⟩, Nat.le_refl _⟩
theorem Mk.tr {B : Nat} {ρ' : Pl} {w' : World} {ds : List Deferred} (h : Mk B ρ w ds) (t : Tr ρ w ρ' w') : Mk B ρ' w' ds := by
  obtain ⟨rs, h1, h2, h3⟩ := h.ok
  exact ⟨⟨rs, h1, h2, fun r hr => ⟨(h3 r hr).1, (t.out r (h3 r hr).2.1).2, (t.out r (h3 r hr).2.1).1.trans (h3 r hr).2.2⟩⟩, Nat.le_trans h.low t.ext.size⟩
/-- The machine's memory stays where other blocks turn. -/
theorem HS.other (h : HS ρ H n w) {w' : World} (ho : ∀ g, (∃ b, ρ b = some g) → w'.heap[g]? = w.heap[g]?) (he : Ext w w') : HS ρ H n w' :=
  ⟨fun b hb => by obtain ⟨g, e, l⟩ := h.obj b hb; exact ⟨g, e, l.at_ (ho g ⟨b, e⟩)⟩, h.inj, h.new, fun b g e => ⟨fun hx => hx.2 b e, Nat.lt_of_lt_of_le (h.old b g e).2 he.size⟩, fun g hg => ⟨hg.1, rfl⟩, Ext.refl w'⟩
/-- What a function leaves behind when its marks are taken. -/
theorem leaves_marks {F : Fence} {m B : Nat} {fn : Func} {tmps : Array Value} {R : Ending → World → Prop} {x : Value} (hres : ∀ w', (∀ g, (∃ b, ρ b = some g) → w'.heap[g]? = w.heap[g]?) → (results fn tmps).run P w' = .ok x w') :
    ∀ (rs : List Nat) (w1 : World), rs.Nodup → (∀ r ∈ rs, B ≤ r ∧ (∀ b, ρ b ≠ some r) ∧ w1.heap[r]? = some (.deferred (some []))) → (∀ g, (∃ b, ρ b = some g) → w1.heap[g]? = w.heap[g]?) → Ext w w1 → (∀ g, g < B → w1.heap[g]? = w.heap[g]?) → HS ρ H n w →
    (∀ w', (∀ g, g < B → w'.heap[g]? = w.heap[g]?) → Ext w w' → HS ρ H n w' → R (.returned x) w') → LeavesInM F m P fn tmps R (rs.map mark) .returning w1 := by
  intro rs
  induction rs with
  | nil => intro w1 _ _ h2 h3 h4 hs hR; exact ⟨x, hres w1 h2, hR w1 h4 h3 (hs.other h2 h3)⟩
  | cons r rs ih =>
    intro w1 hnd h1 h2 h3 h4 hs hR
    obtain ⟨hB, hρ, hw⟩ := h1 r (by simp)
    have hnd' := List.nodup_cons.1 hnd
    have htk := run_takeDeferred (P := P) hw
    refine ⟨by simp, .inl ⟨r, _, rfl, htk, ?_⟩⟩
    have hoth : ∀ g, g ≠ r → (w1.putObj r (.deferred none)).heap[g]? = w1.heap[g]? := fun g hg => World.putObj_heap_other hg
    refine ih _ hnd'.2 (fun r' hr' => ?_) (fun g hg => ?_) (h3.trans ⟨rfl, rfl, rfl, by simp, Nat.le_refl _⟩) (fun g hg => (hoth g (by omega)).trans (h4 g hg)) hs hR
    · obtain ⟨a1, a2, a3⟩ := h1 r' (by simp [hr'])
      have : r' ≠ r := fun e => hnd'.1 (e ▸ hr')
      exact ⟨a1, a2, (hoth r' this).trans a3⟩
    · obtain ⟨b, hb⟩ := hg
      have : g ≠ r := fun e => hρ b (e ▸ hb)
      exact (hoth g this).trans (h2 g ⟨b, hb⟩)
end
end
end Go.Proofs.YtagbmfdheppmoaaGreatDoor.Vm
