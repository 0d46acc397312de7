import Derived.Test.YtagbmfdheppmoaaGreatDoorVmS
import Derived.RangeFuncRecord
import Derived.RangeFuncLeaves
import Derived.LoopNIn
import Derived.TacticsIn
import Derived.OrdersIn
/-
  Texts into bytes, and back; maps.
-/
namespace Go.Proofs.YtagbmfdheppmoaaGreatDoor.Vm
set_option linter.unusedVariables false
set_option linter.unusedSimpArgs false
set_option linter.unusedSectionVars false
open Go.RowKit Go.Proofs.YtagbmfdheppmoaaGreatDoor.Sep
noncomputable section
variable [Vl]
section
variable {P : Program} {Fr : Nat → Prop} {W w : World} {ρ : Pl} {H : T} {n : Nat} {a : Act} {N : Nat} {E : En} {o : Oper}
/-! ### texts and bytes -/
def byV (v : V) : Option Af := match symI v with | some (k, a) => (match k with | .u8 => some a | _ => none) | none => none
def u8Y (l : List Af) : Option (List V) := oall (fun a => match inB a with | true => some (mkI .u8 a) | false => none) l
def bytesV (v : V) : Option (List V) := match v with | .str s => some (u8s s) | .ystr l => u8Y l | _ => none
def convM (P : Program) (H : T) (n : Nat) (s d : TypeId) (x : V) : Out := match unT P d with
  | some .string => (match unT P s with
    | some (.slice e) => (match unT P e with
      | some (.int .u8) => (match symS x with
        | some _ => none
        | none => (match readV H 1 (some x) with
          | some (_, cs) => (match oall byV cs with | some l => some (some (mkS l), H, n) | none => none)
          | none => none))
      | _ => none)
    | _ => none)
  | some (.slice e) => (match unT P s with
    | some .string => (match unT P e with
      | some (.int .u8) => (match bytesV x with
        | some cs => some (some (.slo n 0 (len cs) (len cs) 1), put H n (.frow cs), Nat.add n 1)
        | none => none)
      | _ => none)
    | _ => none)
  | _ => none
theorem byV_den : ∀ {cs : List V} {l : List Af} {Cs : List Value}, oall byV cs = some l → DL ρ cs Cs → Cs = (l.map Af.eval).map (Value.int .u8)
  | [], l, Cs, h, d => by have : [] = l := Option.some.inj h; subst this; rw [d.inv0]; rfl
  | c :: cs, l, Cs, h, d => by
    obtain ⟨y, ys, h1, h2, rfl⟩ := oall_cons h
    obtain ⟨X, Xs, rfl, d1, d2⟩ := d.inv
    unfold byV at h1
    split at h1
    · rename_i k a' hs
      split at h1
      · cases h1
        rw [symI_den hs d1, byV_den h2 d2]
        rfl
      · cases h1
    · cases h1
theorem fold_bytes : ∀ (l : List Af) (r : ByteArray), (l.map Af.eval).foldl (fun r n => r.push (UInt8.ofNat n.toNat)) r = ⟨r.data ++ (l.map Af.byte).toArray⟩
  | [], r => by simp
  | a :: l, r => by
    simp only [List.map_cons, List.foldl_cons]
    rw [fold_bytes l]
    simp [ByteArray.push, Af.byte]
theorem u8Y_den : ∀ {l : List Af} {cs : List V}, u8Y l = some cs → DL ρ cs ((l.map Af.byte).map fun b => Value.int .u8 (b.toNat : Int))
  | [], cs, h => by have : [] = cs := Option.some.inj h; subst this; exact .nil
  | a :: l, cs, h => by
    obtain ⟨y, ys, h1, h2, rfl⟩ := oall_cons h
    split at h1
    · rename_i hb
      cases h1
      refine .cons ?_ (u8Y_den h2)
      show Den ρ (mkI .u8 a) (.int .u8 (a.byte.toNat : Int))
      rw [(inB_byte hb).1]
      exact mkI_den ρ .u8 a
    · cases h1
theorem bytesV_den {v : V} {cs : List V} {X : Value} (h : bytesV v = some cs) (d : Den ρ v X) : ∃ s : ByteArray, X = .string s ∧ DL ρ cs (s.data.toList.map fun b => Value.int .u8 (b.toNat : Int)) := by
  unfold bytesV at h
  split at h
  · rename_i s
    cases h
    exact ⟨_, den_str d, u8s_den ρ s⟩
  · rename_i l
    exact ⟨yB l, symS_den (v := .ystr l) rfl d, u8Y_den h⟩
  · cases h
theorem does_convM (hr : HR Fr W ρ H n w) (he : HE ρ a N E) {s d : TypeId} {x : Operand} {vx : V} {v : Option V} {H' : T} {n' : Nat} (ho : o.op = .convert s d x) (hx : evV E x = some vx) (h : convM P H n s d vx = some (v, H', n')) : Does P Fr W ρ a w o v H' n' := by
  have dx := evV_den he hx
  unfold convM at h
  split at h
  · rename_i hud
    split at h
    · rename_i e hus
      split at h
      · rename_i hue
        split at h
        · cases h
        · rename_i hns
          split at h
          · rename_i m cs hrd
            split at h
            · rename_i l hl
              cases h
              obtain ⟨Ls, d1, d2, _, hf⟩ := read_run (P := P) hr rfl dx hrd
              have hf := hf w rfl
              have hL := byV_den hl d1
              have eb : (l.map Af.eval).foldl (fun r n => r.push (UInt8.ofNat n.toNat)) ByteArray.empty = yB l := by
                rw [fold_bytes]
                have : ByteArray.empty.data = #[] := rfl
                rw [this]; unfold yB; simp
              have key : (convert s d (a.eval x)).run P w = .ok (.string (yB l)) w := by
                generalize a.eval x = X at dx hf
                have go : ∀ g m c, X = .slice (some g) m c → (loadCells g m).run P w = .ok Ls.toArray w → (convert s d X).run P w = .ok (.string (yB l)) w := by
                  intro g m c e hlc
                  subst e
                  rw [run_convert_bytes_string w s d _ _ _ _ (un_eq hus) (un_eq hue) (un_eq hud), run_bytesToString w g m c (l.map Af.eval) (by rw [hlc, hL]), eb]
                cases dx with
                | sl o' n' c' hg =>
                  unfold readV at hrd
                  simp only at hrd
                  split at hrd
                  · cases hrd
                    exact go _ _ _ rfl (by simpa [Builtin.firstCells] using hf)
                  · cases hrd
                | slo o' n' hg hc hz =>
                  unfold readV at hrd
                  simp only at hrd
                  split at hrd
                  · cases hrd
                    exact go _ _ _ rfl (by simpa [Builtin.firstCells] using hf)
                  · cases hrd
                | sle o' l' z' hg hz' hl' =>
                  unfold readV at hrd
                  cases hrd
                  have : [] = l := Option.some.inj hl
                  subst this
                  refine go _ _ _ rfl ?_
                  have : Ls = [] := d1.inv0
                  subst this
                  simp [loadCells, loadCellsFrom]
                | sl0 =>
                  unfold readV at hrd
                  cases hrd
                  have : [] = l := Option.some.inj hl
                  subst this
                  rw [run_convert_bytes_string w s d _ _ _ _ (un_eq hus) (un_eq hue) (un_eq hud)]
                  simp [Conv.bytesToString, yB]
                  rfl
                | _ => cases hrd <;> cases hns
              refine ⟨w, ρ, Le.refl ρ, hr, .string (yB l), ?_, mkS_den ρ l⟩
              simp [execOp, ho, key]
            · cases h
          · cases h
      · cases h
    · cases h
  · rename_i e hud
    split at h
    · rename_i hus
      split at h
      · rename_i hue
        split at h
        · rename_i cs hb
          cases h
          obtain ⟨S, ex, dS⟩ := bytesV_den hb dx
          have hsz : cs.length = S.size := by rw [dS.1]; show _ = S.data.size; simp
          have hge := grownCap_ge w S.size 0 e
          have eb : bytesRow S (grownCap w S.size 0 e) = ((S.data.toList.map fun b => Value.int .u8 (b.toNat : Int)) ++ List.replicate (grownCap w S.size 0 e - S.size) (Value.int .u8 0)).toArray := by
            unfold bytesRow
            apply Array.ext'
            simp
          have hrun := run_bytes_of_string w s d e S (un_eq hus) (un_eq hud) (un_eq hue)
          have hal := HR.alloc hr.drew (.cells (bytesRow S (grownCap w S.size 0 e)) e ((bytesRow S (grownCap w S.size 0 e)).size, (bytesRow S (grownCap w S.size 0 e)).size + 1)) (x := .frow cs) (z := grownCap w S.size 0 e)
            ⟨_, List.replicate (grownCap w S.size 0 e - S.size) (Value.int .u8 0), e, _, by
              have := World.alloc_heap_new w.drew (.cells (bytesRow S (grownCap w S.size 0 e)) e ((bytesRow S (grownCap w S.size 0 e)).size, (bytesRow S (grownCap w S.size 0 e)).size + 1))
              rw [this, eb], dS.mono (hr.drew.le _ _), by
              rw [up_sz]
              have : S.data.toList.length = S.size := by show S.data.toList.length = S.data.size; simp
              simp only [List.length_append, List.length_map, List.length_replicate, this]; omega⟩
          refine ⟨_, _, hr.drew.le _ _, hal, .slice (some ⟨w.heap.size, 0, none⟩) S.size (grownCap w S.size 0 e), ?_, ?_⟩
          · simp only [execOp, ho, ex, Sem.run_bind, hrun, Result.andThen]
            rfl
          · rw [len_eq, hsz]
            exact .slo 0 S.size (up_new ..) hge (by rw [up_sz]; exact ⟨by omega, by omega⟩)
        · cases h
      · cases h
    · cases h
  · cases h
/-! ### maps -/
theorem does_makeMap (hr : HR Fr W ρ H n w) {t : TypeId} (ho : o.op = .makeMap t none) : Does P Fr W ρ a w o (some (.map n)) (put H n (.map [] 0)) (n + 1) := by
  have hal := HR.alloc hr (.map #[] 0) (x := .map [] 0) (z := 0) ⟨[], World.alloc_heap_new w _, rfl, fun i e x h => by simp at h⟩
  refine ⟨_, _, hr.le _ _, hal, .map (some w.heap.size), ?_, .map (up_new ..)⟩
  simp [execOp, ho, Instr.makeMap]
def findV (d : TypeDesc) (k : Value) (es : List (V × V × Nat)) : Nat → Option (Option (Nat × V)) := List.rec (motive := fun _ => Nat → Option (Option (Nat × V))) (fun _ => some none) (fun e _ ih i => match to1 e.1 with
  | some ke => (match Instr.sameNow d k ke with
    | some true => some (some (i, e.2.1))
    | some false => ih (Nat.add i 1)
    | none => none)
  | none => none) es
theorem findV_run {d : TypeDesc} {k : Value} : ∀ {es : List (V × V × Nat)} {Es : List MapEntry} {i : Nat} {r : Option (Nat × V)}, Es.length = es.length → (∀ (i : Nat) (e : V × V × Nat) (x : MapEntry), es[i]? = some e → Es[i]? = some x → Den ρ e.1 x.key ∧ Den ρ e.2.1 x.val ∧ x.born = e.2.2) →
    findV d k es i = some r → match r with | none => Instr.findNow d k Es i = some none | some (j, v) => ∃ X, Den ρ v X ∧ Instr.findNow d k Es i = some (some (j, X))
  | [], Es, i, r, hl, _, h => by
    have : none = r := Option.some.inj h
    subst this
    have : Es = [] := List.eq_nil_of_length_eq_zero hl
    subst this
    rfl
  | e :: es, [], i, r, hl, _, h => by simp at hl
  | e :: es, x :: Es, i, r, hl, hd, h => by
    obtain ⟨d1, d2, _⟩ := hd 0 e x rfl rfl
    have eq : findV d k (e :: es) i = (match to1 e.1 with
      | some ke => (match Instr.sameNow d k ke with
        | some true => some (some (i, e.2.1))
        | some false => findV d k es (i + 1)
        | none => none)
      | none => none) := rfl
    rw [eq] at h
    split at h
    · rename_i ke hke
      have hk := to1_den hke d1
      simp only [Instr.findNow]
      rw [hk]
      split at h
      · rename_i hs
        cases h
        simp only [hs]
        exact ⟨x.val, d2, rfl⟩
      · rename_i hs
        simp only [hs]
        exact findV_run (by simpa using hl) (fun j a b h1 h2 => hd (j + 1) a b (by simpa using h1) (by simpa using h2)) h
      · cases h
    · cases h
def mapIn (H : T) (b : Nat) : Option (Nat × List (V × V × Nat) × Nat) := match get H b with | .map es c => some (b, es, c) | _ => none
def mapAt (H : T) (x : V) : Option (Nat × List (V × V × Nat) × Nat) := match x with
  | .map b => mapIn H b
  | _ => none
def insV (P : Program) (H : T) (n : Nat) (t : TypeId) (m k v : V) : Out := match unT P t with
  | some (.map kt _) => (match mapAt H m with
    | some (b, es, c) => (match to1 k with
      | some kv => (match still P (Instr.checkKey false 10000 kt kv) with
        | some _ => (match unT P kt with
          | some d => (match findV d kv es 0 with
            | some none => some (none, put H b (.map (app es [(k, v, c)]) (Nat.add c 1)), n)
            | _ => none)
          | none => none)
        | none => none)
      | none => none)
    | none => none)
  | _ => none
theorem mapAt_run (hr : HR Fr W ρ H n w) {x : V} {X : Value} {b c : Nat} {es : List (V × V × Nat)} (dx : Den ρ x X) (h : mapAt H x = some (b, es, c)) : ∃ (g : Nat) (Es : List MapEntry), x = .map b ∧ get H b = .map es c ∧ ρ b = some g ∧ X = .map (some g) ∧ w.heap[g]? = some (.map Es.toArray c) ∧ Es.length = es.length ∧ ∀ (i : Nat) (e : V × V × Nat) (x : MapEntry), es[i]? = some e → Es[i]? = some x → Den ρ e.1 x.key ∧ Den ρ e.2.1 x.val ∧ x.born = e.2.2 := by
  unfold mapAt at h
  split at h
  · unfold mapIn at h
    split at h
    · rename_i es' c' hb
      cases h
      cases dx with
      | map hg =>
        obtain ⟨g', e', l⟩ := hr.obj b (by rw [hb]; simp)
        rw [hg] at e'
        have := Option.some.inj e'
        subst this
        rw [hb] at l
        obtain ⟨Es, l1, l2, l3⟩ := l
        exact ⟨_, Es, rfl, hb, hg, rfl, l1, l2, l3⟩
    · cases h
  · cases h
theorem run_findKey {kt : TypeId} {d : TypeDesc} {k : Value} {es : List MapEntry} {r : Option (Nat × Value)} (hu : unT P kt = some d) (h : Instr.findNow d k es 0 = some r) (w : World) : (Instr.findKey kt k es).run P w = .ok r w := by
  simp only [Instr.findKey, Sem.run_bind, un_run hu, Result.andThen_ok, h]
  rfl
theorem does_ins (hr : HR Fr W ρ H n w) (he : HE ρ a N E) {t : TypeId} {m k x : Operand} {vm vk vx : V} {v : Option V} {H' : T} {n' : Nat} (ho : o.op = .insert t m k x ∨ o.op = .mapUpdate t m k x) (hm : evV E m = some vm) (hk : evV E k = some vk) (hx : evV E x = some vx) (h : insV P H n t vm vk vx = some (v, H', n')) : Does P Fr W ρ a w o v H' n' := by
  have dm := evV_den he hm
  have dk := evV_den he hk
  have dx := evV_den he hx
  unfold insV at h
  split at h
  · rename_i kt et hu
    split at h
    · rename_i b es c hmap
      split at h
      · rename_i kv hkv
        split at h
        · rename_i q hck
          split at h
          · rename_i d hud
            split at h
            · rename_i hf
              cases h
              obtain ⟨g, Es, _, hb, hg, ex, hw, l2, l3⟩ := mapAt_run hr dm hmap
              have ek := to1_den hkv dk
              have hfn := findV_run l2 l3 hf
              simp only at hfn
              have hfk := run_findKey (P := P) hud hfn
              have hck' := still_run hck
              let Y : MapEntry := { key := kv, val := a.eval x, born := c }
              have hw' : (w.putObj g (.map (Es.toArray.push Y) (c + 1))).heap[g]? = some (.map (Es ++ [Y]).toArray (c + 1)) := by
                rw [World.putObj_heap_same (Array.getElem?_eq_some_iff.1 hw).1]
                congr 2
                apply Array.ext'; simp
              have hch := HR.change hr (b := b) (x := .map (app es [(vk, vx, c)]) (c + 1)) (w' := w.putObj g (.map (Es.toArray.push Y) (c + 1))) (by rw [hb]; simp) hg
                ⟨Es ++ [Y], hw', by rw [app_eq]; simp [l2], fun i e y h1 h2 => by
                  rw [app_eq] at h1
                  by_cases hi : i < es.length
                  · rw [List.getElem?_append_left hi] at h1
                    rw [List.getElem?_append_left (by omega)] at h2
                    exact l3 i e y h1 h2
                  · rw [List.getElem?_append_right (by omega)] at h1
                    rw [List.getElem?_append_right (by omega), l2] at h2
                    by_cases hz : i - es.length = 0
                    · rw [hz] at h1 h2
                      simp at h1 h2
                      subst h1
                      subst h2
                      exact ⟨by show Den ρ vk kv; rw [← ek]; exact dk, dx, rfl⟩
                    · obtain ⟨j, hj⟩ : ∃ j, i - es.length = j + 1 := ⟨i - es.length - 1, by omega⟩
                      rw [hj] at h1; simp at h1⟩
                (fun k hk => World.putObj_heap_other hk) ⟨rfl, rfl, rfl, by simp, Nat.le_refl _⟩
              refine ⟨_, ρ, Le.refl ρ, hch, ?_⟩
              have hgo : (getObj g).run P w = .ok (.map Es.toArray c) w := by simp [getObj, Sem.run, hw]
              have hso : ∀ o', (setObj g o').run P w = .ok () (w.putObj g o') := fun o' => by simp [setObj, Sem.run, hw, World.putObj]
              have main : (Instr.mapUpdate t (a.eval m) (a.eval k) (a.eval x)).run P w = .ok () (w.putObj g (.map (Es.toArray.push Y) (c + 1))) := by
                rw [ex, ek]
                simp [Instr.mapUpdate, un_run hu, hgo, hck', hfk, hso]
                rfl
              rcases ho with ho | ho <;> simp [execOp, ho, main]
            · cases h
          · cases h
        · cases h
      · cases h
    · cases h
  · cases h
def lookV (P : Program) (H : T) (t : TypeId) (x k : V) (ok : Bool) : Option V := match unT P t with
  | some (.map kt et) => (match mapAt H x with
    | some (_, es, _) => (match to1 k with
      | some kv => (match still P (Instr.checkKey false 10000 kt kv) with
        | some _ => (match still P (Instr.checkKey true 10000 kt kv) with
          | some _ => (match unT P kt with
            | some d => (match findV d kv es 0 with
              | some (some (_, v)) => some (bif ok then .tup [v, .bool true] else v)
              | some none => (match still P (zeroValue et) with
                | some z => (match ofV z with | some v => some (bif ok then .tup [v, .bool false] else v) | none => none)
                | none => none)
              | none => none)
            | none => none)
          | none => none)
        | none => none)
      | none => none)
    | none => none)
  | _ => none
theorem does_look (hr : HR Fr W ρ H n w) (he : HE ρ a N E) {t : TypeId} {x k : Operand} {ok : Bool} {vx vk v : V} (ho : o.op = .lookup t x k ok) (hx : evV E x = some vx) (hk : evV E k = some vk) (h : lookV P H t vx vk ok = some v) : Does P Fr W ρ a w o (some v) H n := by
  have dx := evV_den he hx
  have dk := evV_den he hk
  unfold lookV at h
  split at h
  · rename_i kt et hu
    split at h
    · rename_i b es c hmap
      split at h
      · rename_i kv hkv
        split at h
        · rename_i q1 hc1
          split at h
          · rename_i q2 hc2
            split at h
            · rename_i d hud
              obtain ⟨g, Es, _, hb, hg, ex, hw, l2, l3⟩ := mapAt_run hr dx hmap
              have ek := to1_den hkv dk
              have hgo : (getObj g).run P w = .ok (.map Es.toArray c) w := by simp [getObj, Sem.run, hw]
              have hck : ∀ e : Bool, ∃ q, (Instr.checkKey e 10000 kt kv).run P w = .ok q w := fun e => by cases e; exact ⟨_, still_run hc1 w⟩; exact ⟨_, still_run hc2 w⟩
              obtain ⟨q, hck⟩ := hck Es.isEmpty
              split at h
              · rename_i j v' hf
                cases h
                have hfn := findV_run l2 l3 hf
                simp only at hfn
                obtain ⟨X, dX, hfn⟩ := hfn
                have hfk := run_findKey (P := P) hud hfn
                have main : (Instr.lookup t (a.eval x) (a.eval k) ok).run P w = .ok (if ok then .tuple #[X, .bool true] else X) w := by
                  rw [ex, ek]
                  simp [Instr.lookup, un_run hu, hgo, hck, hfk, Result.andThen]
                refine does_val hr (r := if ok then .tuple #[X, .bool true] else X) (by simp [execOp, ho, main]) ?_
                cases ok with
                | false => exact dX
                | true => exact (DL.cons dX (DL.cons (.bool true) DL.nil)).tup
              · rename_i hf
                split at h
                · rename_i z hz
                  split at h
                  · rename_i v' hv
                    cases h
                    have hfn := findV_run l2 l3 hf
                    simp only at hfn
                    have hfk := run_findKey (P := P) hud hfn
                    have hz' := still_run hz
                    have main : (Instr.lookup t (a.eval x) (a.eval k) ok).run P w = .ok (if ok then .tuple #[z, .bool false] else z) w := by
                      rw [ex, ek]
                      simp [Instr.lookup, un_run hu, hgo, hck, hfk, hz', Result.andThen]
                    have dz : Den ρ v' z := ofV_den hv
                    refine does_val hr (r := if ok then .tuple #[z, .bool false] else z) (by simp [execOp, ho, main]) ?_
                    cases ok with
                    | false => exact dz
                    | true => exact (DL.cons dz (DL.cons (.bool false) DL.nil)).tup
                  · cases h
                · cases h
              · cases h
            · cases h
          · cases h
        · cases h
      · cases h
    · cases h
  · cases h
end
end
end Go.Proofs.YtagbmfdheppmoaaGreatDoor.Vm

/-
  All operations that call nothing; what stays as it is behind an operation.
-/
namespace Go.Proofs.YtagbmfdheppmoaaGreatDoor.Vm
set_option linter.unusedVariables false
set_option linter.unusedSimpArgs false
set_option linter.unusedSectionVars false
open Go.RowKit Go.Proofs.YtagbmfdheppmoaaGreatDoor.Sep
noncomputable section
variable [Vl]
/-- What an operation yields that looks at no memory. -/
def opP0 (P : Program) (E : En) (o : Oper) : Option V := match o.op with
  | .move x => evV E x
  | .assign x => evV E x
  | .pick c x y => pickV E c x y
  | .nilCheck x => nilV (evV E x)
  | .extract x i => extractV (evV E x) i
  | .field t x f => fieldV P t (evV E x) f
  | .index t x i => indexV P t (evV E x) (natV (evV E i))
  | .makeInterface t x => makeIfc P t (evV E x)
  | .makeFunc f l m => funcV E f l.toList m.toList
  | .fieldAddr t x f => fieldAddrV P t (evV E x) f
  | .indexAddr t x i => indexAddrV P t (evV E x) (natV (evV E i))
  | .binOp op t x y _ => binV P E T0 op t o (evV E x) (evV E y)
  | .slice t x lo hi mx => sliceV P E t (evV E x) lo hi mx
  | .build t l => buildV P E t l.toList
  | .call c => (match c.callee with
    | .builtin b => (match b with
      | .len => (match c.args.toList with
        | [x] => (match c.argTypes.toList with | [t] => lenV P T0 t (evV E x) | _ => none)
        | _ => none)
      | _ => fbOp P E o)
    | _ => none)
  | _ => fbOp P E o
theorem opP0_pur {P : Program} {ρ : Pl} {a : Act} {N : Nat} {E : En} {o : Oper} (he : HE ρ a N E) {v : V} (h : opP0 P E o = some v) : Pur P ρ a o v := by
  unfold opP0 at h
  split at h
  case h_1 x e => exact pur_move he (.inl e) h
  case h_2 x e => exact pur_move he (.inr e) h
  case h_3 c x y e => exact pur_pick he e h
  case h_4 x e => exact pur_nil he e h
  case h_5 x i e => exact pur_extract he e h
  case h_6 t x f e => exact pur_field he e h
  case h_7 t x i e => exact pur_index he e h
  case h_8 t x e => exact pur_ifc he e h
  case h_9 f l m e => exact pur_func he e h
  case h_10 t x f e => exact pur_fieldAddr he e h
  case h_11 t x i e => exact pur_indexAddr he e h
  case h_12 op t x y u e => exact pur_bin he e h
  case h_13 t x lo hi mx e => exact pur_slice he e h
  case h_14 t l e => exact pur_build he e h
  case h_15 c e =>
    obtain ⟨cal, args, ts⟩ := c
    simp only at h
    split at h
    · split at h
      · split at h
        · rename_i x ha
          split at h
          · rename_i t ht
            have e1 : args = #[x] := by apply Array.ext'; rw [ha]
            have e2 : ts = #[t] := by apply Array.ext'; rw [ht]
            subst e1
            subst e2
            exact pur_len he e h
          · cases h
        · cases h
      · exact pur_fb he h
    · cases h
  · exact pur_fb he h
def opP (P : Program) (E : En) (o : Oper) : Option V := match opP0 P E o with | some v => some v | none => opY P E o
theorem opP_pur {P : Program} {ρ : Pl} {a : Act} {N : Nat} {E : En} {o : Oper} (he : HE ρ a N E) {v : V} (h : opP P E o = some v) : Pur P ρ a o v := by
  unfold opP at h
  split at h
  · rename_i v' h'; cases h; exact opP0_pur he h'
  · exact opY_pur he h
def pureO (v : Option V) (H : T) (n : Nat) : Out := match v with | some v => some (some v, H, n) | none => none
def biV (P : Program) (E : En) (H : T) (n : Nat) (o : Oper) (b : Builtin) (args : List Operand) (ts : List TypeId) : Out := match b with
  | .append => (match args with
    | [x, y] => (match ts with | [t, u] => appendV P H n t u (evV E x) (evV E y) | _ => none)
    | _ => none)
  | .len => (match args with
    | [x] => (match ts with | [t] => pureO (lenV P H t (evV E x)) H n | _ => none)
    | _ => none)
  | _ => pureO (fbOp P E o) H n
def opV0 (P : Program) (E : En) (H : T) (n : Nat) (o : Oper) : Out := match o.op with
  | .move x => pureO (evV E x) H n
  | .assign x => pureO (evV E x) H n
  | .pick c x y => pureO (pickV E c x y) H n
  | .nilCheck x => pureO (nilV (evV E x)) H n
  | .extract x i => pureO (extractV (evV E x) i) H n
  | .field t x f => pureO (fieldV P t (evV E x) f) H n
  | .index t x i => pureO (indexV P t (evV E x) (natV (evV E i))) H n
  | .makeInterface t x => pureO (makeIfc P t (evV E x)) H n
  | .makeFunc f l m => pureO (funcV E f l.toList m.toList) H n
  | .fieldAddr t x f => pureO (fieldAddrV P t (evV E x) f) H n
  | .indexAddr t x i => pureO (indexAddrV P t (evV E x) (natV (evV E i))) H n
  | .binOp op t x y _ => pureO (binV P E H op t o (evV E x) (evV E y)) H n
  | .slice t x lo hi mx => pureO (sliceV P E t (evV E x) lo hi mx) H n
  | .build t l => pureO (buildV P E t l.toList) H n
  | .load t x => pureO (loadV P H t (evV E x)) H n
  | .store t x y => storeV P H n t (evV E x) (evV E y)
  | .alloc t => allocV P t H n
  | .box _ x => boxV (evV E x) H n
  | .buildSlice t m l => bslV P E H n t m l.toList
  | .makeSlice t l c => mslV P H n t (natV (evV E l)) (natV (evV E c))
  | .call c => (match c.callee with | .builtin b => biV P E H n o b c.args.toList c.argTypes.toList | _ => none)
  | _ => pureO (fbOp P E o) H n
section
variable {P : Program} {Fr : Nat → Prop} {W w : World} {ρ : Pl} {H : T} {n : Nat} {a : Act} {N : Nat} {E : En} {o : Oper}
theorem pureO_some {x : Option V} {v : Option V} {H' : T} {n' : Nat} (h : pureO x H n = some (v, H', n')) : ∃ y, x = some y ∧ v = some y ∧ H' = H ∧ n' = n := by
  unfold pureO at h
  split at h
  · cases h; exact ⟨_, rfl, rfl, rfl, rfl⟩
  · cases h
theorem opV0_does (hr : HR Fr W ρ H n w) (he : HE ρ a N E) {v : Option V} {H' : T} {n' : Nat} (h : opV0 P E H n o = some (v, H', n')) : Does P Fr W ρ a w o v H' n' := by
  unfold opV0 at h
  split at h
  case h_1 x e => obtain ⟨z_, h2, rfl, rfl, rfl⟩ := pureO_some h; exact does_move hr he (.inl e) h2
  case h_2 x e => obtain ⟨z_, h2, rfl, rfl, rfl⟩ := pureO_some h; exact does_move hr he (.inr e) h2
  case h_3 c x y e => obtain ⟨z_, h2, rfl, rfl, rfl⟩ := pureO_some h; exact does_pick hr he e h2
  case h_4 x e => obtain ⟨z_, h2, rfl, rfl, rfl⟩ := pureO_some h; exact does_nil hr he e h2
  case h_5 x i e => obtain ⟨z_, h2, rfl, rfl, rfl⟩ := pureO_some h; exact does_extract hr he e h2
  case h_6 t x f e => obtain ⟨z_, h2, rfl, rfl, rfl⟩ := pureO_some h; exact does_field hr he e h2
  case h_7 t x i e => obtain ⟨z_, h2, rfl, rfl, rfl⟩ := pureO_some h; exact does_index hr he e h2
  case h_8 t x e => obtain ⟨z_, h2, rfl, rfl, rfl⟩ := pureO_some h; exact does_ifc hr he e h2
  case h_9 f l m e => obtain ⟨z_, h2, rfl, rfl, rfl⟩ := pureO_some h; exact does_func hr he e h2
  case h_10 t x f e => obtain ⟨z_, h2, rfl, rfl, rfl⟩ := pureO_some h; exact does_fieldAddr hr he e h2
  case h_11 t x i e => obtain ⟨z_, h2, rfl, rfl, rfl⟩ := pureO_some h; exact does_indexAddr hr he e h2
  case h_12 op t x y u e => obtain ⟨z_, h2, rfl, rfl, rfl⟩ := pureO_some h; exact does_bin hr he e h2
  case h_13 t x lo hi mx e => obtain ⟨z_, h2, rfl, rfl, rfl⟩ := pureO_some h; exact does_slice hr he e h2
  case h_14 t l e => obtain ⟨z_, h2, rfl, rfl, rfl⟩ := pureO_some h; exact does_build hr he e h2
  case h_15 t x e => obtain ⟨z_, h2, rfl, rfl, rfl⟩ := pureO_some h; exact does_load hr he e h2
  case h_16 t x y e => exact does_store hr he e h
  case h_17 t e => exact does_alloc hr e h
  case h_18 t x e => exact does_box hr he e h
  case h_19 t m l e => exact does_bsl hr he e h
  case h_20 t l c e => exact does_msl hr he e h
  case h_21 c e =>
    obtain ⟨cal, args, ts⟩ := c
    simp only at h
    split at h
    · rename_i b
      unfold biV at h
      split at h
      · split at h
        · rename_i x y ha
          split at h
          · rename_i t u ht
            have e1 : args = #[x, y] := by apply Array.ext'; rw [ha]
            have e2 : ts = #[t, u] := by apply Array.ext'; rw [ht]
            subst e1
            subst e2
            exact does_append hr he e h
          · cases h
        · cases h
      · split at h
        · rename_i x ha
          split at h
          · rename_i t ht
            have e1 : args = #[x] := by apply Array.ext'; rw [ha]
            have e2 : ts = #[t] := by apply Array.ext'; rw [ht]
            subst e1
            subst e2
            obtain ⟨z_, h2, rfl, rfl, rfl⟩ := pureO_some h
            exact does_len hr he e h2
          · cases h
        · cases h
      · obtain ⟨z_, h2, rfl, rfl, rfl⟩ := pureO_some h; exact does_fb hr he h2
    · cases h
  · obtain ⟨z_, h2, rfl, rfl, rfl⟩ := pureO_some h; exact does_fb hr he h2
/-- Texts, bytes, maps. -/
def opM (P : Program) (E : En) (H : T) (n : Nat) (o : Oper) : Out := match o.op with
  | .convert s d x => (match evV E x with | some v => convM P H n s d v | none => none)
  | .makeMap _ none => some (some (.map n), put H n (.map [] 0), Nat.add n 1)
  | .insert t m k x => (match evV E m with
    | some vm => (match evV E k with
      | some vk => (match evV E x with | some vx => insV P H n t vm vk vx | none => none)
      | none => none)
    | none => none)
  | .mapUpdate t m k x => (match evV E m with
    | some vm => (match evV E k with
      | some vk => (match evV E x with | some vx => insV P H n t vm vk vx | none => none)
      | none => none)
    | none => none)
  | .lookup t x k ok => (match evV E x with
    | some vx => (match evV E k with | some vk => pureO (lookV P H t vx vk ok) H n | none => none)
    | none => none)
  | _ => none
theorem opM_does (hr : HR Fr W ρ H n w) (he : HE ρ a N E) {v : Option V} {H' : T} {n' : Nat} (h : opM P E H n o = some (v, H', n')) : Does P Fr W ρ a w o v H' n' := by
  unfold opM at h
  split at h
  · rename_i s d x ho
    split at h
    · rename_i vx hx; exact does_convM hr he ho hx h
    · cases h
  · rename_i t ho; cases h; exact does_makeMap hr ho
  · rename_i t m k x ho
    split at h
    · rename_i vm hm
      split at h
      · rename_i vk hk
        split at h
        · rename_i vx hx; exact does_ins hr he (.inl ho) hm hk hx h
        · cases h
      · cases h
    · cases h
  · rename_i t m k x ho
    split at h
    · rename_i vm hm
      split at h
      · rename_i vk hk
        split at h
        · rename_i vx hx; exact does_ins hr he (.inr ho) hm hk hx h
        · cases h
      · cases h
    · cases h
  · rename_i t x k ok ho
    split at h
    · rename_i vx hx
      split at h
      · rename_i vk hk
        obtain ⟨z, h2, rfl, rfl, rfl⟩ := pureO_some h
        exact does_look hr he ho hx hk h2
      · cases h
    · cases h
  · cases h
def opV (P : Program) (E : En) (H : T) (n : Nat) (o : Oper) : Out := match opV0 P E H n o with
  | some r => some r
  | none => (match opY P E o with | some v => some (some v, H, n) | none => opM P E H n o)
theorem opV_does (hr : HR Fr W ρ H n w) (he : HE ρ a N E) {v : Option V} {H' : T} {n' : Nat} (h : opV P E H n o = some (v, H', n')) : Does P Fr W ρ a w o v H' n' := by
  unfold opV at h
  split at h
  · rename_i r hr0; cases h; exact opV0_does hr he hr0
  · split at h
    · rename_i v' hy; cases h; exact (opY_pur he hy).does hr
    · exact opM_does hr he h
/-! ### what is as it was -/
/-- A block of the world that is none of the machine's. -/
def Out_ (ρ : Pl) (w : World) (g : Nat) : Prop := g < w.heap.size ∧ ∀ b, ρ b ≠ some g
/-- The machine's memory in a world, told of that world alone. -/
abbrev HS (ρ : Pl) (H : T) (n : Nat) (w : World) : Prop := HR (Out_ ρ w) w ρ H n w
/-- From one world to a later one. -/
structure Tr (ρ : Pl) (w : World) (ρ' : Pl) (w' : World) : Prop where
  le : Le ρ ρ'
  ext : Ext w w'
  out : ∀ g, Out_ ρ w g → w'.heap[g]? = w.heap[g]? ∧ Out_ ρ' w' g
theorem Tr.refl (ρ : Pl) (w : World) : Tr ρ w ρ w := ⟨Le.refl ρ, Ext.refl w, fun _ h => ⟨rfl, h⟩⟩
theorem Tr.trans {ρ ρ1 ρ2 : Pl} {w w1 w2 : World} (h : Tr ρ w ρ1 w1) (k : Tr ρ1 w1 ρ2 w2) : Tr ρ w ρ2 w2 :=
  ⟨h.le.trans k.le, h.ext.trans k.ext, fun g hg => ⟨(k.out g (h.out g hg).2).1.trans (h.out g hg).1, (k.out g (h.out g hg).2).2⟩⟩
theorem HR.self (h : HR Fr W ρ H n w) : HS ρ H n w :=
  ⟨h.obj, h.inj, h.new, fun b g e => ⟨fun ho => ho.2 b e, (h.old b g e).2⟩, fun g hg => ⟨hg.1, rfl⟩, Ext.refl w⟩
theorem HR.tr {w0 : World} {ρ0 : Pl} (l : Le ρ0 ρ) (h : HR (Out_ ρ0 w0) w0 ρ H n w) : Tr ρ0 w0 ρ w :=
  ⟨l, h.ext, fun g hg => ⟨(h.frm g hg).2, Nat.lt_of_lt_of_le hg.1 h.ext.size, fun b e => (h.old b g e).1 hg⟩⟩
theorem HS.drew (h : HS ρ H n w) : HS ρ H n w.drew := (HR.drew h).self
end
end
end Go.Proofs.YtagbmfdheppmoaaGreatDoor.Vm

/-
  The machine's code: lists of operations, calls, what a function leaves behind.
-/
namespace Go.Proofs.YtagbmfdheppmoaaGreatDoor.Vm
set_option linter.unusedVariables false
set_option linter.unusedSimpArgs false
set_option linter.unusedSectionVars false
open Go.RowKit Go.Proofs.YtagbmfdheppmoaaGreatDoor.Sep
noncomputable section
variable [Vl]
/-- Why it goes no further: a sum of which it is not known whether it is positive; an operation; code. -/
inductive Why where
  | pos (a : Af)
  | op (o : Oper)
  | code (c : Code)
  | nb (n : Nat)
inductive Re where
  | norm (E : En) (H : T) (n : Nat)
  | exit (id : Nat) (E : En) (H : T) (n : Nat)
  | ret (E : En) (H : T) (n : Nat)
  | bad (y : Why)
/-- What comes of a call. -/
inductive Cr where
  | ok (v : V) (H : T) (n : Nat)
  | bad (y : Why)
/-- How code is carried out, in a function with so many temporaries. -/
abbrev X := Nat → Code → En → T → Nat → Re
def unV : V := .tup []
def setD (d : Option Tmp) (v : V) (E : En) : En := match d with | some d => setE E d v | none => E
def inN (N : Nat) (d : Option Tmp) : Bool := match d with | some d => Nat.blt d N | none => true
def guB_ (v : V) (want : Bool) : Option Bool := match v with | .bool b => some (b == want) | .bsym _ => none | _ => some false
def guardV (ops : List Oper) (E : En) (o : Oper) : Option Bool := match o.guard with
  | none => some true
  | some (j, want) => (match nth ops j with
    | some q => (match q.dst with
      | some d => (match look E d with | some v => guB_ v want | none => none)
      | none => none)
    | none => none)
def whyG (ops : List Oper) (E : En) (o : Oper) : Why := match o.guard with
  | none => .op o
  | some (j, _) => (match nth ops j with
    | some q => (match q.dst with
      | some d => (match look E d with | some (.bsym c) => .pos (askC c) | _ => .op o)
      | none => .op o)
    | none => .op o)
def funT (P : Program) (g : FuncId) : Option (Func × Code) := match nth P.funcs.toList g with
  | some fn => (match fn.name == "runtime.NumGoroutine" with
    | false => (match fn.body with | some c => some (fn, c) | none => none)
    | true => none)
  | none => none
def envOf (l : List V) : Nat → En := List.rec (motive := fun _ => Nat → En) (fun _ => E0) (fun v _ ih k => setE (ih (Nat.add k 1)) k v) l
def resV (P : Program) (E : En) (H : T) (r : ResultVar) : Option V := match r with | .tmp t => look E t | .cell t ty => loadV P H ty (look E t)
def resL (P : Program) (E : En) (H : T) (rs : List ResultVar) : Option V := match oall (resV P E H) rs with
  | some l => (match l with | [v] => some v | l => some (.tup l))
  | none => none
def leaveV (P : Program) (rs : List ResultVar) (r : Re) : Cr := match r with
  | .norm E H n => (match resL P E H rs with | some v => .ok v H n | none => .bad (.nb 1))
  | .ret E H n => (match resL P E H rs with | some v => .ok v H n | none => .bad (.nb 1))
  | .exit _ _ _ _ => .bad (.nb 2)
  | .bad y => .bad y
def callV (ih : X) (P : Program) (g : FuncId) (args : List V) (H : T) (n : Nat) : Cr := match funT P g with
  | some (fn, c) => (match Nat.ble (len args) fn.ntmps with
    | true => leaveV P fn.results.toList (ih fn.ntmps c (envOf args 0) H n)
    | false => .bad (.nb 3))
  | none => .bad (.nb 4)
/-- A function of the library without a body. -/
def extV (P : Program) (g : FuncId) (args : List V) (H : T) (n : Nat) : Cr := match oall toV args with
  | some l => (match still P (callFunc g l.toArray) with
    | some (.value r) => (match ofV r with | some v => .ok v H n | none => .bad (.nb 8))
    | _ => .bad (.nb 9))
  | none => .bad (.nb 10)
/-! ### loops over functions -/
def noRf (c : Code) : Bool := Code.rec (motive := fun _ => Bool) true (fun _ _ _ => true) (fun _ _ a b => match a with | true => b | false => false) (fun _ _ _ a b => match a with | true => b | false => false) (fun _ _ a => a) (fun _ a => a) (fun _ _ _ _ _ _ => false) (fun _ => true) (fun _ a => a) (fun _ => true) (fun _ => true) true (fun _ => true) c
def setPs (N : Nat) (ps : List Nat) : List V → En → Option En := List.rec (motive := fun _ => List V → En → Option En) (fun vs E => match vs with | [] => some E | _ => none) (fun p _ ih vs E => match vs with
  | [] => none
  | v :: vs => (match Nat.blt p N with | true => ih vs (setE E p v) | false => none)) ps
def endR (H : T) (b n : Nat) (j : Option Code) : Cr := match get H b with
  | .loop _ _ N E ps sg bd => .ok (.bool j.isNone) (put H b (.loop (bif j.isNone then 0 else 2) j N E ps sg bd)) n
  | _ => .bad (.nb 5)
def roundE (b : Nat) (r : Re) : Cr := match r with
  | .norm _ H n => endR H b n none
  | .exit id _ H n => endR H b n (some (.exit id))
  | .ret _ H n => endR H b n (some .ret)
  | .bad y => .bad y
def round2 (ih : X) (b N : Nat) (bd : Code) (r : Re) : Cr := match r with
  | .norm E H n => (match get H b with
    | .loop st pd N' E' ps' sg' bd' => (match Nat.beq st 0 with
      | true => roundE b (ih N bd E (put H b (.loop 1 pd N' E' ps' sg' bd')) n)
      | false => .bad (.nb 6))
    | _ => .bad (.nb 6))
  | .bad y => .bad y
  | _ => .bad (.nb 6)
def yieldV (ih : X) (b : Nat) (args : List V) (H : T) (n : Nat) : Cr := match get H b with
  | .loop _ _ N E ps sg bd => (match noRf sg && noRf bd with
    | true => (match setPs N ps args E with
      | some E1 => round2 ih b N bd (ih N sg E1 H n)
      | none => .bad (.nb 7))
    | false => .bad (.nb 7))
  | _ => .bad (.nb 7)
/-! ### deferred calls: only the marks of loops over functions -/
def mark (r : Nat) : Deferred := { target := .collected r, args := #[] }
structure Mk (B : Nat) (ρ : Pl) (w : World) (ds : List Deferred) : Prop where
  ok : ∃ rs : List Nat, ds = rs.map mark ∧ rs.Nodup ∧ ∀ r ∈ rs, B ≤ r ∧ Out_ ρ w r ∧ w.heap[r]? = some (.deferred (some []))
  low : B ≤ w.heap.size
section
variable {P : Program} {W w : World} {ρ : Pl} {H : T} {n : Nat} {a : Act} {N : Nat} {E : En} {o : Oper}
theorem Mk.nil (ρ : Pl) (w : World) : Mk w.heap.size ρ w [] := ⟨⟨[], rfl, List.nodup_nil, fun r h => by cases h⟩, Nat.le_refl _⟩
theorem Mk.tr {B : Nat} {ρ' : Pl} {w' : World} {ds : List Deferred} (h : Mk B ρ w ds) (t : Tr ρ w ρ' w') : Mk B ρ' w' ds := by
  obtain ⟨rs, h1, h2, h3⟩ := h.ok
  exact ⟨⟨rs, h1, h2, fun r hr => ⟨(h3 r hr).1, (t.out r (h3 r hr).2.1).2, (t.out r (h3 r hr).2.1).1.trans (h3 r hr).2.2⟩⟩, Nat.le_trans h.low t.ext.size⟩
/-- The machine's memory stays where other blocks turn. -/
theorem HS.other (h : HS ρ H n w) {w' : World} (ho : ∀ g, (∃ b, ρ b = some g) → w'.heap[g]? = w.heap[g]?) (he : Ext w w') : HS ρ H n w' :=
  ⟨fun b hb => by obtain ⟨g, e, l⟩ := h.obj b hb; exact ⟨g, e, l.at_ (ho g ⟨b, e⟩)⟩, h.inj, h.new, fun b g e => ⟨fun hx => hx.2 b e, Nat.lt_of_lt_of_le (h.old b g e).2 he.size⟩, fun g hg => ⟨hg.1, rfl⟩, Ext.refl w'⟩
/-- What a function leaves behind when its marks are taken. -/
theorem leaves_marks {F : Fence} {m B : Nat} {fn : Func} {tmps : Array Value} {R : Ending → World → Prop} {x : Value} (hres : ∀ w', (∀ g, (∃ b, ρ b = some g) → w'.heap[g]? = w.heap[g]?) → (results fn tmps).run P w' = .ok x w') :
    ∀ (rs : List Nat) (w1 : World), rs.Nodup → (∀ r ∈ rs, B ≤ r ∧ (∀ b, ρ b ≠ some r) ∧ w1.heap[r]? = some (.deferred (some []))) → (∀ g, (∃ b, ρ b = some g) → w1.heap[g]? = w.heap[g]?) → Ext w w1 → (∀ g, g < B → w1.heap[g]? = w.heap[g]?) → HS ρ H n w →
    (∀ w', (∀ g, g < B → w'.heap[g]? = w.heap[g]?) → Ext w w' → HS ρ H n w' → R (.returned x) w') → LeavesInM F m P fn tmps R (rs.map mark) .returning w1 := by
  intro rs
  induction rs with
  | nil => intro w1 _ _ h2 h3 h4 hs hR; exact ⟨x, hres w1 h2, hR w1 h4 h3 (hs.other h2 h3)⟩
  | cons r rs ih =>
    intro w1 hnd h1 h2 h3 h4 hs hR
    obtain ⟨hB, hρ, hw⟩ := h1 r (by simp)
    have hnd' := List.nodup_cons.1 hnd
    have htk := run_takeDeferred (P := P) hw
    refine ⟨by simp, .inl ⟨r, _, rfl, htk, ?_⟩⟩
    have hoth : ∀ g, g ≠ r → (w1.putObj r (.deferred none)).heap[g]? = w1.heap[g]? := fun g hg => World.putObj_heap_other hg
    refine ih _ hnd'.2 (fun r' hr' => ?_) (fun g hg => ?_) (h3.trans ⟨rfl, rfl, rfl, by simp, Nat.le_refl _⟩) (fun g hg => (hoth g (by omega)).trans (h4 g hg)) hs hR
    · obtain ⟨a1, a2, a3⟩ := h1 r' (by simp [hr'])
      have : r' ≠ r := fun e => hnd'.1 (e ▸ hr')
      exact ⟨a1, a2, (hoth r' this).trans a3⟩
    · obtain ⟨b, hb⟩ := hg
      have : g ≠ r := fun e => hρ b (e ▸ hb)
      exact (hoth g this).trans (h2 g ⟨b, hb⟩)
end
end
end Go.Proofs.YtagbmfdheppmoaaGreatDoor.Vm

/-
  That the machine's code is the model's.
-/
namespace Go.Proofs.YtagbmfdheppmoaaGreatDoor.Vm
set_option linter.unusedVariables false
set_option linter.unusedSimpArgs false
set_option linter.unusedSectionVars false
open Go.RowKit Go.Proofs.YtagbmfdheppmoaaGreatDoor.Sep
noncomputable section
variable [Vl]
def FW (ro : Option Nat) : Fence := { Fence.wide with round := ro }
/-- What is promised of an outcome. -/
def Post (r : Re) (B : Nat) (ρ : Pl) (w : World) (N : Nat) (Q : Exit → Act → World → Prop) : Prop := match r with
  | .norm E H n => ∀ ρ' a' w', Tr ρ w ρ' w' → HS ρ' H n w' → HE ρ' a' N E → Mk B ρ' w' a'.defers → Q .normal a' w'
  | .exit id E H n => ∀ ρ' a' w', Tr ρ w ρ' w' → HS ρ' H n w' → HE ρ' a' N E → Mk B ρ' w' a'.defers → Q (.exit id) a' w'
  | .ret E H n => ∀ ρ' a' w', Tr ρ w ρ' w' → HS ρ' H n w' → HE ρ' a' N E → Mk B ρ' w' a'.defers → Q .ret a' w'
  | .bad _ => False
/-- The world has grown, and what was there is as it was. -/
structure Gx (w w' : World) : Prop where
  ext : Ext w w'
  old : ∀ g, g < w.heap.size → w'.heap[g]? = w.heap[g]?
/-- What is known of calls is so. -/
def RuleOk (P : Program) : Prop := ∀ (f : FuncId) (args : List V) (v : V), Vl.rule f args = some v → ∀ (ρ : Pl) (Args : List Value) (w : World) (m : Nat), DL ρ args Args → CallsIn (FW none) m P f Args.toArray w fun e w' => ∃ x, e = .returned x ∧ Den ρ v x ∧ Gx w w'
/-- Code that is carried out so is the model's. -/
def Claim (P : Program) (ih : X) : Prop := RuleOk P ∧ ∀ (N : Nat) (c : Code) (E : En) (H : T) (n : Nat) (ro : Option Nat) (m B : Nat) (ρ : Pl) (a : Act) (w : World) (Q : Exit → Act → World → Prop),
  (ro = none ∨ noRf c = true) → HS ρ H n w → HE ρ a N E → Mk B ρ w a.defers → Post (ih N c E H n) B ρ w N Q → c.wpIn (FW ro) m P Q a w
def dstV (v : Option V) : V := match v with | some v => v | none => unV
def crO (o : Oper) (x : Out) : Cr := match x with | some (v, H, n) => .ok (dstV v) H n | none => .bad (.op o)
def opX (ih : X) (P : Program) (E : En) (H : T) (n : Nat) (o : Oper) : Cr := match o.op with
  | .defer _ => .bad (.op o)
  | .call c => (match c.callee with
    | .value f => (match evV E f with
      | some (.fn (.func g) l1 l3) => (match evL E c.args.toList with
        | some l2 => (match funT P g with
          | some _ => (match Vl.rule g (app (app l1 l2) l3) with | some v => .ok v H n | none => callV ih P g (app (app l1 l2) l3) H n)
          | none => extV P g (app (app l1 l2) l3) H n)
        | none => .bad (.op o))
      | some (.yld b) => (match evL E c.args.toList with
        | some l2 => yieldV ih b l2 H n
        | none => .bad (.op o))
      | _ => .bad (.op o))
    | _ => crO o (opV P E H n o))
  | _ => crO o (opV P E H n o)
def opsR (ih : X) (P : Program) (N : Nat) (all l : List Oper) : En → T → Nat → Re := List.rec (motive := fun _ => En → T → Nat → Re) (fun E H n => .norm E H n)
  (fun o _ k E H n => match inN N o.dst with
    | true => (match guardV all E o with
      | some true => (match opX ih P E H n o with
        | .ok v H' n' => k (setD o.dst v E) H' n'
        | .bad y => .bad y)
      | some false => k (setD o.dst unV E) H n
      | none => .bad (whyG all E o))
    | false => .bad (.op o)) l
section
variable {P : Program} {ih : X} {w : World} {ρ : Pl} {H : T} {n : Nat} {a : Act} {N : Nat} {E : En} {o : Oper} {Q : Exit → Act → World → Prop}
theorem Post.shift {r : Re} {B : Nat} {ρ1 : Pl} {w1 : World} (h : Post r B ρ w N Q) (t : Tr ρ w ρ1 w1) : Post r B ρ1 w1 N Q := by
  cases r with
  | norm E H n => exact fun ρ' a' w' t' => h ρ' a' w' (t.trans t')
  | exit id E H n => exact fun ρ' a' w' t' => h ρ' a' w' (t.trans t')
  | ret E H n => exact fun ρ' a' w' t' => h ρ' a' w' (t.trans t')
  | bad y => exact h
theorem den_un (ρ : Pl) : Den ρ unV undef := by
  exact (DL.nil (ρ := ρ)).tup
theorem HE.set (h : HE ρ a N E) {d : Option Tmp} {v : V} {x : Value} (hd : inN N d = true) (k : Den ρ v x) : HE ρ (a.put d x) N (setD d v E) := by
  cases d with
  | none => exact h
  | some d => exact h.put (blt_lt hd) k
theorem put_defers (a : Act) (d : Option Tmp) (x : Value) : (a.put d x).defers = a.defers := by cases d <;> rfl
theorem funT_spec {g : FuncId} {fn : Func} {c : Code} (h : funT P g = some (fn, c)) : P.funcs[g]? = some fn ∧ fn.body = some c ∧ ∀ args w, (callFunc g args).run P w = .ok (.enter g args) w := by
  unfold funT at h
  split at h
  · rename_i fn' h1
    split at h
    · rename_i h2
      split at h
      · rename_i c' h3
        cases h
        have hf : P.funcs[g]? = some fn := by rw [nth_eq] at h1; simpa using h1
        refine ⟨hf, h3, fun args w => ?_⟩
        have hb : fn.body.isNone = false := by rw [h3]; rfl
        have h2' : ¬ (fn.name = "runtime.NumGoroutine") := by intro e; rw [e] at h2; simp at h2
        have h3' : ¬ (fn.body = none) := by rw [h3]; simp
        simp [callFunc, hf, h2', h3']
      · cases h
    · cases h
  · cases h
theorem env_of : ∀ {l : List V} {L : List Value} (k : Nat), DL ρ l L → ∀ t v, look (envOf l k) t = some v → ∃ x, k ≤ t ∧ L[t - k]? = some x ∧ Den ρ v x
  | [], L, k, d, t, v, h => by
    have h : look E0 t = some v := h
    rw [look_E0] at h; cases h
  | y :: l, L, k, d, t, v, h => by
    obtain ⟨z, Zs, rfl, d1, d2⟩ := d.inv
    have h : look (setE (envOf l (k + 1)) k y) t = some v := h
    rcases look_set h with ⟨e1, e2⟩ | ⟨e1, e2⟩
    · subst e1
      subst e2
      exact ⟨z, Nat.le_refl _, by simp, d1⟩
    · obtain ⟨x, h1, h2, h3⟩ := env_of (k + 1) d2 t v e2
      refine ⟨x, by omega, ?_, h3⟩
      rw [show t - k = (t - (k + 1)) + 1 by omega, List.getElem?_cons_succ]
      exact h2
theorem enter_HE {l : List V} {L : List Value} (d : DL ρ l L) (h : L.length ≤ N) : HE ρ { tmps := L.toArray ++ Array.replicate (N - L.toArray.size) undef, defers := [] } N (envOf l 0) := by
  refine ⟨by simp; omega, fun t v e => ?_⟩
  obtain ⟨x, _, h2, h3⟩ := env_of 0 d t v e
  refine ⟨x, ?_, h3⟩
  rw [Nat.sub_zero] at h2
  have hlt : t < L.toArray.size := by have := (List.getElem?_eq_some_iff.1 h2).1; simpa using this
  show (L.toArray ++ Array.replicate (N - L.toArray.size) undef)[t]? = some x
  rw [Array.getElem?_append_left hlt]
  simpa using h2
/-! ### results -/
theorem resV_run (hs : HS ρ H n w) (he : HE ρ a N E) {r : ResultVar} {v : V} (h : resV P E H r = some v) : ∃ x, Den ρ v x ∧ ∀ w', (∀ g, (∃ b, ρ b = some g) → w'.heap[g]? = w.heap[g]?) → (Sep.resV a.tmps r).run P w' = .ok x w' := by
  cases r with
  | tmp t =>
    obtain ⟨x, e, d⟩ := he.get t v h
    refine ⟨x, d, fun w' _ => ?_⟩
    show Result.ok (a.tmps.getD t undef) w' = _
    simp only [Array.getD_eq_getD_getElem?, e, Option.getD_some]
  | cell t ty =>
    have h' : loadV P H ty (evV E (.tmp t)) = some v := h
    unfold loadV at h'
    split at h'
    · rename_i b f e
      obtain ⟨g, hg, hx⟩ := den_ptr (evV_den he e)
      have hx' : a.tmps.getD t undef = .pointer (some ⟨g, f, none⟩) := hx
      split at h'
      · rename_i cs hb
        obtain ⟨Cs, R, t', fz, hw, d, hsz⟩ := mem_at hs hb hg
        split at h'
        · rename_i ha
          rw [nth_eq] at h'
          obtain ⟨r, e1, d1⟩ := d.get h'
          refine ⟨r, d1, fun w' ho => ?_⟩
          have hc := cell_of ((ho g ⟨b, hg⟩).trans hw) f
          rw [List.getElem?_append_left (List.getElem?_eq_some_iff.1 e1).1, e1] at hc
          simp [Sep.resV, hx', asAddr, loadVar, still_run ha, load, Sem.run, hc]
        · rename_i ha
          split at h'
          · rename_i k hk
            cases hb2 : Nat.ble (Nat.add f k) (len cs) with
            | false => rw [hb2] at h'; cases h'
            | true =>
              rw [hb2] at h'
              cases h'
              have h1 : f + k ≤ cs.length := by have := Nat.le_of_ble_eq_true hb2; rwa [len_eq] at this
              rw [d.1] at h1
              refine ⟨.agg ((Cs.drop f).take k).toArray, by rw [takeN_eq, dropN_eq]; exact ((d.drop f).take k).agg, fun w' ho => ?_⟩
              have hl := cells_run (P := P) ((ho g ⟨b, hg⟩).trans hw) h1
              simp [Sep.resV, hx', asAddr, loadVar, still_run ha, sz_run hk, hl]
          · cases h'
        · cases h'
      · cases h'
    · cases h'
theorem mapM_run {rs : List ResultVar} (hs : HS ρ H n w) (he : HE ρ a N E) : ∀ {l : List V}, oall (resV P E H) rs = some l → ∃ xs : List Value, DL ρ l xs ∧ ∀ w', (∀ g, (∃ b, ρ b = some g) → w'.heap[g]? = w.heap[g]?) → (rs.mapM (Sep.resV a.tmps)).run P w' = .ok xs w' := by
  induction rs with
  | nil => intro l h; have : [] = l := Option.some.inj h; subst this; exact ⟨[], .nil, fun w' _ => by simp⟩
  | cons r rs ih =>
    intro l h
    obtain ⟨y, ys, h1, h2, rfl⟩ := oall_cons h
    obtain ⟨x, d, hx⟩ := resV_run hs he h1
    obtain ⟨xs, ds, hxs⟩ := ih h2
    exact ⟨x :: xs, .cons d ds, fun w' ho => by simp [hx w' ho, hxs w' ho]⟩
theorem res_run (hs : HS ρ H n w) (he : HE ρ a N E) {fn : Func} {v : V} (h : resL P E H fn.results.toList = some v) : ∃ x, Den ρ v x ∧ ∀ w', (∀ g, (∃ b, ρ b = some g) → w'.heap[g]? = w.heap[g]?) → (results fn a.tmps).run P w' = .ok x w' := by
  unfold resL at h
  split at h
  · rename_i l hl
    obtain ⟨xs, ds, hx⟩ := mapM_run hs he hl
    have hm : ∀ w', (∀ g, (∃ b, ρ b = some g) → w'.heap[g]? = w.heap[g]?) → (fn.results.mapM (Sep.resV a.tmps)).run P w' = .ok xs.toArray w' := by
      intro w' ho
      have := hx w' ho
      have e : fn.results.mapM (Sep.resV a.tmps) = List.toArray <$> fn.results.toList.mapM (Sep.resV a.tmps) := by rw [Array.mapM_eq_mapM_toList]
      rw [e]
      simp [this]
    split at h
    · rename_i v'
      cases h
      obtain ⟨x, As, rfl, d1, d2⟩ := ds.inv
      have := d2.inv0
      subst this
      refine ⟨x, d1, fun w' ho => ?_⟩
      rw [results_eq]
      simp [hm w' ho]
    · rename_i l' hne
      cases h
      refine ⟨.tuple xs.toArray, ds.tup, fun w' ho => ?_⟩
      rw [results_eq]
      have hl1 : ¬ (xs.toArray.size = 1) := by
        intro e
        have e2 : l.length = 1 := by rw [ds.1]; simpa using e
        match l, e2 with
        | [y], _ => exact hne y rfl
      simp only [Sem.run_bind, hm w' ho, Result.andThen]
      simp only [List.size_toArray] at hl1
      simp [hl1]
  · cases h
end
end
end Go.Proofs.YtagbmfdheppmoaaGreatDoor.Vm
