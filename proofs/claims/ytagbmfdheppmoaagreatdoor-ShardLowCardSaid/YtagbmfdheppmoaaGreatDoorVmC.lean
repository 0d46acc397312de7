import Derived.Test.YtagbmfdheppmoaaGreatDoorVmV
import Derived.RangeFuncLeaves
import Derived.LoopNIn
import Derived.TacticsIn
import Derived.OrdersIn
/-
  All operations that call nothing; what stays as it is behind an operation.
-/
namespace Go.Proofs.YtagbmfdheppmoaaGreatDoor.Vm
set_option linter.unusedVariables false
set_option linter.unusedSimpArgs false
set_option linter.unusedSectionVars false
open Go.RowKit Go.Proofs.YtagbmfdheppmoaaGreatDoor.Sep
noncomputable section
variable [Vl]
/-- What an operation yields that looks at no memory. -/
def opP0 (P : Program) (E : En) (o : Oper) : Option V := match o.op with
  | .move x => evV E x
  | .assign x => evV E x
  | .pick c x y => pickV E c x y
  | .nilCheck x => nilV (evV E x)
  | .extract x i => extractV (evV E x) i
  | .field t x f => fieldV P t (evV E x) f
  | .index t x i => indexV P t (evV E x) (natV (evV E i))
  | .makeInterface t x => makeIfc P t (evV E x)
  | .makeFunc f l m => funcV E f l.toList m.toList
  | .fieldAddr t x f => fieldAddrV P t (evV E x) f
  | .indexAddr t x i => indexAddrV P t (evV E x) (natV (evV E i))
  | .binOp op t x y _ => binV P E T0 op t o (evV E x) (evV E y)
  | .slice t x lo hi mx => sliceV P E t (evV E x) lo hi mx
  | .build t l => buildV P E t l.toList
  | .call c => (match c.callee with
    | .builtin b => (match b with
      | .len => (match c.args.toList with
        | [x] => (match c.argTypes.toList with | [t] => lenV P T0 t (evV E x) | _ => none)
        | _ => none)
      | _ => fbOp P E o)
    | _ => none)
  | _ => fbOp P E o
theorem opP0_pur {P : Program} {ρ : Pl} {a : Act} {N : Nat} {E : En} {o : Oper} (he : HE ρ a N E) {v : V} (h : opP0 P E o = some v) : Pur P ρ a o v := by
  unfold opP0 at h
  split at h
  case h_1 x e => exact pur_move he (.inl e) h
  case h_2 x e => exact pur_move he (.inr e) h
  case h_3 c x y e => exact pur_pick he e h
  case h_4 x e => exact pur_nil he e h
  case h_5 x i e => exact pur_extract he e h
  case h_6 t x f e => exact pur_field he e h
  case h_7 t x i e => exact pur_index he e h
  case h_8 t x e => exact pur_ifc he e h
  case h_9 f l m e => exact pur_func he e h
  case h_10 t x f e => exact pur_fieldAddr he e h
  case h_11 t x i e => exact pur_indexAddr he e h
  case h_12 op t x y u e => exact pur_bin he e h
  case h_13 t x lo hi mx e => exact pur_slice he e h
  case h_14 t l e => exact pur_build he e h
  case h_15 c e =>
    obtain ⟨cal, args, ts⟩ := c
    simp only at h
    split at h
    · split at h
      · split at h
        · rename_i x ha
          split at h
          · rename_i t ht
            have e1 : args = #[x] := by apply Array.ext'; rw [ha]
            have e2 : ts = #[t] := by apply Array.ext'; rw [ht]
            subst e1
            subst e2
            exact pur_len he e h
          · cases h
        · cases h
      · exact pur_fb he h
    · cases h
  · exact pur_fb he h
def opP (P : Program) (E : En) (o : Oper) : Option V := match opP0 P E o with | some v => some v | none => opY P E o
theorem opP_pur {P : Program} {ρ : Pl} {a : Act} {N : Nat} {E : En} {o : Oper} (he : HE ρ a N E) {v : V} (h : opP P E o = some v) : Pur P ρ a o v := by
  unfold opP at h
  split at h
  · rename_i v' h'; cases h; exact opP0_pur he h'
  · exact opY_pur he h
def pureO (v : Option V) (H : T) (n : Nat) : Out := match v with | some v => some (some v, H, n) | none => none
def biV (P : Program) (E : En) (H : T) (n : Nat) (o : Oper) (b : Builtin) (args : List Operand) (ts : List TypeId) : Out := match b with
  | .append => (match args with
    | [x, y] => (match ts with | [t, u] => appendV P H n t u (evV E x) (evV E y) | _ => none)
    | _ => none)
  | .len => (match args with
    | [x] => (match ts with | [t] => pureO (lenV P H t (evV E x)) H n | _ => none)
    | _ => none)
  | _ => pureO (fbOp P E o) H n
def opV0 (P : Program) (E : En) (H : T) (n : Nat) (o : Oper) : Out := match o.op with
  | .move x => pureO (evV E x) H n
  | .assign x => pureO (evV E x) H n
  | .pick c x y => pureO (pickV E c x y) H n
  | .nilCheck x => pureO (nilV (evV E x)) H n
  | .extract x i => pureO (extractV (evV E x) i) H n
  | .field t x f => pureO (fieldV P t (evV E x) f) H n
  | .index t x i => pureO (indexV P t (evV E x) (natV (evV E i))) H n
  | .makeInterface t x => pureO (makeIfc P t (evV E x)) H n
  | .makeFunc f l m => pureO (funcV E f l.toList m.toList) H n
  | .fieldAddr t x f => pureO (fieldAddrV P t (evV E x) f) H n
  | .indexAddr t x i => pureO (indexAddrV P t (evV E x) (natV (evV E i))) H n
  | .binOp op t x y _ => pureO (binV P E H op t o (evV E x) (evV E y)) H n
  | .slice t x lo hi mx => pureO (sliceV P E t (evV E x) lo hi mx) H n
  | .build t l => pureO (buildV P E t l.toList) H n
  | .load t x => pureO (loadV P H t (evV E x)) H n
  | .store t x y => storeV P H n t (evV E x) (evV E y)
  | .alloc t => allocV P t H n
  | .box _ x => boxV (evV E x) H n
  | .buildSlice t m l => bslV P E H n t m l.toList
  | .call c => (match c.callee with | .builtin b => biV P E H n o b c.args.toList c.argTypes.toList | _ => none)
  | _ => pureO (fbOp P E o) H n
section
variable {P : Program} {Fr : Nat → Prop} {W w : World} {ρ : Pl} {H : T} {n : Nat} {a : Act} {N : Nat} {E : En} {o : Oper}
theorem pureO_some {x : Option V} {v : Option V} {H' : T} {n' : Nat} (h : pureO x H n = some (v, H', n')) : ∃ y, x = some y ∧ v = some y ∧ H' = H ∧ n' = n := by
  unfold pureO at h
  split at h
  · cases h; exact ⟨_, rfl, rfl, rfl, rfl⟩
  · cases h
theorem opV0_does (hr : HR Fr W ρ H n w) (he : HE ρ a N E) {v : Option V} {H' : T} {n' : Nat} (h : opV0 P E H n o = some (v, H', n')) : Does P Fr W ρ a w o v H' n' := by
  unfold opV0 at h
  split at h
  case h_1 x e => obtain ⟨z_, h2, rfl, rfl, rfl⟩ := pureO_some h; exact does_move hr he (.inl e) h2
  case h_2 x e => obtain ⟨z_, h2, rfl, rfl, rfl⟩ := pureO_some h; exact does_move hr he (.inr e) h2
  case h_3 c x y e => obtain ⟨z_, h2, rfl, rfl, rfl⟩ := pureO_some h; exact does_pick hr he e h2
  case h_4 x e => obtain ⟨z_, h2, rfl, rfl, rfl⟩ := pureO_some h; exact does_nil hr he e h2
  case h_5 x i e => obtain ⟨z_, h2, rfl, rfl, rfl⟩ := pureO_some h; exact does_extract hr he e h2
  case h_6 t x f e => obtain ⟨z_, h2, rfl, rfl, rfl⟩ := pureO_some h; exact does_field hr he e h2
  case h_7 t x i e => obtain ⟨z_, h2, rfl, rfl, rfl⟩ := pureO_some h; exact does_index hr he e h2
  case h_8 t x e => obtain ⟨z_, h2, rfl, rfl, rfl⟩ := pureO_some h; exact does_ifc hr he e h2
  case h_9 f l m e => obtain ⟨z_, h2, rfl, rfl, rfl⟩ := pureO_some h; exact does_func hr he e h2
  case h_10 t x f e => obtain ⟨z_, h2, rfl, rfl, rfl⟩ := pureO_some h; exact does_fieldAddr hr he e h2
  case h_11 t x i e => obtain ⟨z_, h2, rfl, rfl, rfl⟩ := pureO_some h; exact does_indexAddr hr he e h2
  case h_12 op t x y u e => obtain ⟨z_, h2, rfl, rfl, rfl⟩ := pureO_some h; exact does_bin hr he e h2
  case h_13 t x lo hi mx e => obtain ⟨z_, h2, rfl, rfl, rfl⟩ := pureO_some h; exact does_slice hr he e h2
  case h_14 t l e => obtain ⟨z_, h2, rfl, rfl, rfl⟩ := pureO_some h; exact does_build hr he e h2
  case h_15 t x e => obtain ⟨z_, h2, rfl, rfl, rfl⟩ := pureO_some h; exact does_load hr he e h2
  case h_16 t x y e => exact does_store hr he e h
  case h_17 t e => exact does_alloc hr e h
  case h_18 t x e => exact does_box hr he e h
  case h_19 t m l e => exact does_bsl hr he e h
  case h_20 c e =>
    obtain ⟨cal, args, ts⟩ := c
    simp only at h
    split at h
    · rename_i b
      unfold biV at h
      split at h
      · split at h
        · rename_i x y ha
          split at h
          · rename_i t u ht
            have e1 : args = #[x, y] := by apply Array.ext'; rw [ha]
            have e2 : ts = #[t, u] := by apply Array.ext'; rw [ht]
            subst e1
            subst e2
            exact does_append hr he e h
          · cases h
        · cases h
      · split at h
        · rename_i x ha
          split at h
          · rename_i t ht
            have e1 : args = #[x] := by apply Array.ext'; rw [ha]
            have e2 : ts = #[t] := by apply Array.ext'; rw [ht]
            subst e1
            subst e2
            obtain ⟨z_, h2, rfl, rfl, rfl⟩ := pureO_some h
            exact does_len hr he e h2
          · cases h
        · cases h
      · obtain ⟨z_, h2, rfl, rfl, rfl⟩ := pureO_some h; exact does_fb hr he h2
    · cases h
  · obtain ⟨z_, h2, rfl, rfl, rfl⟩ := pureO_some h; exact does_fb hr he h2
/-- Texts, bytes, maps. -/
def opM (P : Program) (E : En) (H : T) (n : Nat) (o : Oper) : Out := match o.op with
  | .convert s d x => (match evV E x with | some v => convM P H n s d v | none => none)
  | .makeMap _ none => some (some (.map n), put H n (.map [] 0), Nat.add n 1)
  | .insert t m k x => (match evV E m with
    | some vm => (match evV E k with
      | some vk => (match evV E x with | some vx => insV P H n t vm vk vx | none => none)
      | none => none)
    | none => none)
  | .mapUpdate t m k x => (match evV E m with
    | some vm => (match evV E k with
      | some vk => (match evV E x with | some vx => insV P H n t vm vk vx | none => none)
      | none => none)
    | none => none)
  | .lookup t x k ok => (match evV E x with
    | some vx => (match evV E k with | some vk => pureO (lookV P H t vx vk ok) H n | none => none)
    | none => none)
  | _ => none
theorem opM_does (hr : HR Fr W ρ H n w) (he : HE ρ a N E) {v : Option V} {H' : T} {n' : Nat} (h : opM P E H n o = some (v, H', n')) : Does P Fr W ρ a w o v H' n' := by
  unfold opM at h
  split at h
  · rename_i s d x ho
    split at h
    · rename_i vx hx; exact does_convM hr he ho hx h
    · cases h
  · rename_i t ho; cases h; exact does_makeMap hr ho
  · rename_i t m k x ho
    split at h
    · rename_i vm hm
      split at h
      · rename_i vk hk
        split at h
        · rename_i vx hx; exact does_ins hr he (.inl ho) hm hk hx h
        · cases h
      · cases h
    · cases h
  · rename_i t m k x ho
    split at h
    · rename_i vm hm
      split at h
      · rename_i vk hk
        split at h
        · rename_i vx hx; exact does_ins hr he (.inr ho) hm hk hx h
        · cases h
      · cases h
    · cases h
  · rename_i t x k ok ho
    split at h
    · rename_i vx hx
      split at h
      · rename_i vk hk
        obtain ⟨z, h2, rfl, rfl, rfl⟩ := pureO_some h
        exact does_look hr he ho hx hk h2
      · cases h
    · cases h
  · cases h
def opV (P : Program) (E : En) (H : T) (n : Nat) (o : Oper) : Out := match opV0 P E H n o with
  | some r => some r
  | none => (match opY P E o with | some v => some (some v, H, n) | none => opM P E H n o)
theorem opV_does (hr : HR Fr W ρ H n w) (he : HE ρ a N E) {v : Option V} {H' : T} {n' : Nat} (h : opV P E H n o = some (v, H', n')) : Does P Fr W ρ a w o v H' n' := by
  unfold opV at h
  split at h
  · rename_i r hr0; cases h; exact opV0_does hr he hr0
  · split at h
    · rename_i v' hy; cases h; exact (opY_pur he hy).does hr
    · exact opM_does hr he h
/-! ### what is as it was -/
/-- A block of the world that is none of the machine's. -/
def Out_ (ρ : Pl) (w : World) (g : Nat) : Prop := g < w.heap.size ∧ ∀ b, ρ b ≠ some g
/-- The machine's memory in a world, told of that world alone. -/
abbrev HS (ρ : Pl) (H : T) (n : Nat) (w : World) : Prop := HR (Out_ ρ w) w ρ H n w
/-- From one world to a later one. -/
structure Tr (ρ : Pl) (w : World) (ρ' : Pl) (w' : World) : Prop where
  le : Le ρ ρ'
  ext : Ext w w'
  out : ∀ g, Out_ ρ w g → w'.heap[g]? = w.heap[g]? ∧ Out_ ρ' w' g
theorem Tr.refl (ρ : Pl) (w : World) : Tr ρ w ρ w := ⟨Le.refl ρ, Ext.refl w, fun _ h => ⟨rfl, h⟩⟩
theorem Tr.trans {ρ ρ1 ρ2 : Pl} {w w1 w2 : World} (h : Tr ρ w ρ1 w1) (k : Tr ρ1 w1 ρ2 w2) : Tr ρ w ρ2 w2 :=
  ⟨h.le.trans k.le, h.ext.trans k.ext, fun g hg => ⟨(k.out g (h.out g hg).2).1.trans (h.out g hg).1, (k.out g (h.out g hg).2).2⟩⟩
theorem HR.self (h : HR Fr W ρ H n w) : HS ρ H n w :=
  ⟨h.obj, h.inj, h.new, fun b g e => ⟨fun ho => ho.2 b e, (h.old b g e).2⟩, fun g hg => ⟨hg.1, rfl⟩, Ext.refl w⟩
theorem HR.tr {w0 : World} {ρ0 : Pl} (l : Le ρ0 ρ) (h : HR (Out_ ρ0 w0) w0 ρ H n w) : Tr ρ0 w0 ρ w :=
  ⟨l, h.ext, fun g hg => ⟨(h.frm g hg).2, Nat.lt_of_lt_of_le hg.1 h.ext.size, fun b e => (h.old b g e).1 hg⟩⟩
theorem HS.drew (h : HS ρ H n w) : HS ρ H n w.drew := (HR.drew h).self
end
end
end Go.Proofs.YtagbmfdheppmoaaGreatDoor.Vm
