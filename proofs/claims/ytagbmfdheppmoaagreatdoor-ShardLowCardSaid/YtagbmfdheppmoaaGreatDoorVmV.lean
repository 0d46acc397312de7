import Derived.Test.YtagbmfdheppmoaaGreatDoorVmU
import Derived.RangeFuncRecord
/-
  Texts into bytes, and back; maps.
-/
namespace Go.Proofs.YtagbmfdheppmoaaGreatDoor.Vm
set_option linter.unusedVariables false
set_option linter.unusedSimpArgs false
set_option linter.unusedSectionVars false
open Go.RowKit Go.Proofs.YtagbmfdheppmoaaGreatDoor.Sep
noncomputable section
variable [Vl]
section
variable {P : Program} {Fr : Nat → Prop} {W w : World} {ρ : Pl} {H : T} {n : Nat} {a : Act} {N : Nat} {E : En} {o : Oper}
theorem un_eq {t : TypeId} {d : TypeDesc} (h : unT P t = some d) : P.underlying t = some d := by
  have := un_run h default
  cases hq : P.underlying t with
  | none => exfalso; simp [underlying, hq] at this
  | some d' => rw [run_underlying hq default] at this; simp only [Result.ok.injEq, and_true] at this; rw [this]
/-! ### texts and bytes -/
def byV (v : V) : Option Af := match symI v with | some (k, a) => (match k with | .u8 => some a | _ => none) | none => none
def u8Y (l : List Af) : Option (List V) := oall (fun a => match inB a with | true => some (mkI .u8 a) | false => none) l
def bytesV (v : V) : Option (List V) := match v with | .str s => some (u8s s) | .ystr l => u8Y l | _ => none
def convM (P : Program) (H : T) (n : Nat) (s d : TypeId) (x : V) : Out := match unT P d with
  | some .string => (match unT P s with
    | some (.slice e) => (match unT P e with
      | some (.int .u8) => (match symS x with
        | some _ => none
        | none => (match readV H 1 (some x) with
          | some (_, cs) => (match oall byV cs with | some l => some (some (mkS l), H, n) | none => none)
          | none => none))
      | _ => none)
    | _ => none)
  | some (.slice e) => (match unT P s with
    | some .string => (match unT P e with
      | some (.int .u8) => (match bytesV x with
        | some cs => some (some (.slo n 0 (len cs) (len cs) 1), put H n (.frow cs), Nat.add n 1)
        | none => none)
      | _ => none)
    | _ => none)
  | _ => none
theorem byV_den : ∀ {cs : List V} {l : List Af} {Cs : List Value}, oall byV cs = some l → DL ρ cs Cs → Cs = (l.map Af.eval).map (Value.int .u8)
  | [], l, Cs, h, d => by have : [] = l := Option.some.inj h; subst this; rw [d.inv0]; rfl
  | c :: cs, l, Cs, h, d => by
    obtain ⟨y, ys, h1, h2, rfl⟩ := oall_cons h
    obtain ⟨X, Xs, rfl, d1, d2⟩ := d.inv
    unfold byV at h1
    split at h1
    · rename_i k a' hs
      split at h1
      · cases h1
        rw [symI_den hs d1, byV_den h2 d2]
        rfl
      · cases h1
    · cases h1
theorem fold_bytes : ∀ (l : List Af) (r : ByteArray), (l.map Af.eval).foldl (fun r n => r.push (UInt8.ofNat n.toNat)) r = ⟨r.data ++ (l.map Af.byte).toArray⟩
  | [], r => by simp
  | a :: l, r => by
    simp only [List.map_cons, List.foldl_cons]
    rw [fold_bytes l]
    simp [ByteArray.push, Af.byte]
theorem u8Y_den : ∀ {l : List Af} {cs : List V}, u8Y l = some cs → DL ρ cs ((l.map Af.byte).map fun b => Value.int .u8 (b.toNat : Int))
  | [], cs, h => by have : [] = cs := Option.some.inj h; subst this; exact .nil
  | a :: l, cs, h => by
    obtain ⟨y, ys, h1, h2, rfl⟩ := oall_cons h
    split at h1
    · rename_i hb
      cases h1
      refine .cons ?_ (u8Y_den h2)
      show Den ρ (mkI .u8 a) (.int .u8 (a.byte.toNat : Int))
      rw [(inB_byte hb).1]
      exact mkI_den ρ .u8 a
    · cases h1
theorem bytesV_den {v : V} {cs : List V} {X : Value} (h : bytesV v = some cs) (d : Den ρ v X) : ∃ s : ByteArray, X = .string s ∧ DL ρ cs (s.data.toList.map fun b => Value.int .u8 (b.toNat : Int)) := by
  unfold bytesV at h
  split at h
  · rename_i s
    cases h
    exact ⟨_, den_str d, u8s_den ρ s⟩
  · rename_i l
    exact ⟨yB l, symS_den (v := .ystr l) rfl d, u8Y_den h⟩
  · cases h
theorem does_convM (hr : HR Fr W ρ H n w) (he : HE ρ a N E) {s d : TypeId} {x : Operand} {vx : V} {v : Option V} {H' : T} {n' : Nat} (ho : o.op = .convert s d x) (hx : evV E x = some vx) (h : convM P H n s d vx = some (v, H', n')) : Does P Fr W ρ a w o v H' n' := by
  have dx := evV_den he hx
  unfold convM at h
  split at h
  · rename_i hud
    split at h
    · rename_i e hus
      split at h
      · rename_i hue
        split at h
        · cases h
        · rename_i hns
          split at h
          · rename_i m cs hrd
            split at h
            · rename_i l hl
              cases h
              obtain ⟨Ls, d1, d2, _, hf⟩ := read_run (P := P) hr rfl dx hrd
              have hf := hf w rfl
              have hL := byV_den hl d1
              have eb : (l.map Af.eval).foldl (fun r n => r.push (UInt8.ofNat n.toNat)) ByteArray.empty = yB l := by
                rw [fold_bytes]
                have : ByteArray.empty.data = #[] := rfl
                rw [this]; unfold yB; simp
              have key : (convert s d (a.eval x)).run P w = .ok (.string (yB l)) w := by
                generalize a.eval x = X at dx hf
                have go : ∀ g m c, X = .slice (some g) m c → (loadCells g m).run P w = .ok Ls.toArray w → (convert s d X).run P w = .ok (.string (yB l)) w := by
                  intro g m c e hlc
                  subst e
                  rw [run_convert_bytes_string w s d _ _ _ _ (un_eq hus) (un_eq hue) (un_eq hud), run_bytesToString w g m c (l.map Af.eval) (by rw [hlc, hL]), eb]
                cases dx with
                | sl o' n' c' hg =>
                  unfold readV at hrd
                  simp only at hrd
                  split at hrd
                  · cases hrd
                    exact go _ _ _ rfl (by simpa [Builtin.firstCells] using hf)
                  · cases hrd
                | slo o' n' hg hc hz =>
                  unfold readV at hrd
                  simp only at hrd
                  split at hrd
                  · cases hrd
                    exact go _ _ _ rfl (by simpa [Builtin.firstCells] using hf)
                  · cases hrd
                | sle o' l' z' hg hz' hl' =>
                  unfold readV at hrd
                  cases hrd
                  have : [] = l := Option.some.inj hl
                  subst this
                  refine go _ _ _ rfl ?_
                  have : Ls = [] := d1.inv0
                  subst this
                  simp [loadCells, loadCellsFrom]
                | sl0 =>
                  unfold readV at hrd
                  cases hrd
                  have : [] = l := Option.some.inj hl
                  subst this
                  rw [run_convert_bytes_string w s d _ _ _ _ (un_eq hus) (un_eq hue) (un_eq hud)]
                  simp [Conv.bytesToString, yB]
                  rfl
                | _ => cases hrd <;> cases hns
              refine ⟨w, ρ, Le.refl ρ, hr, .string (yB l), ?_, mkS_den ρ l⟩
              simp [execOp, ho, key]
            · cases h
          · cases h
      · cases h
    · cases h
  · rename_i e hud
    split at h
    · rename_i hus
      split at h
      · rename_i hue
        split at h
        · rename_i cs hb
          cases h
          obtain ⟨S, ex, dS⟩ := bytesV_den hb dx
          have hsz : cs.length = S.size := by rw [dS.1]; show _ = S.data.size; simp
          have hge := grownCap_ge w S.size 0 e
          have eb : bytesRow S (grownCap w S.size 0 e) = ((S.data.toList.map fun b => Value.int .u8 (b.toNat : Int)) ++ List.replicate (grownCap w S.size 0 e - S.size) (Value.int .u8 0)).toArray := by
            unfold bytesRow
            apply Array.ext'
            simp
          have hrun := run_bytes_of_string w s d e S (un_eq hus) (un_eq hud) (un_eq hue)
          have hal := HR.alloc hr.drew (.cells (bytesRow S (grownCap w S.size 0 e)) e ((bytesRow S (grownCap w S.size 0 e)).size, (bytesRow S (grownCap w S.size 0 e)).size + 1)) (x := .frow cs) (z := grownCap w S.size 0 e)
            ⟨_, List.replicate (grownCap w S.size 0 e - S.size) (Value.int .u8 0), e, _, by
              have := World.alloc_heap_new w.drew (.cells (bytesRow S (grownCap w S.size 0 e)) e ((bytesRow S (grownCap w S.size 0 e)).size, (bytesRow S (grownCap w S.size 0 e)).size + 1))
              rw [this, eb], dS.mono (hr.drew.le _ _), by
              rw [up_sz]
              have : S.data.toList.length = S.size := by show S.data.toList.length = S.data.size; simp
              simp only [List.length_append, List.length_map, List.length_replicate, this]; omega⟩
          refine ⟨_, _, hr.drew.le _ _, hal, .slice (some ⟨w.heap.size, 0, none⟩) S.size (grownCap w S.size 0 e), ?_, ?_⟩
          · simp only [execOp, ho, ex, Sem.run_bind, hrun, Result.andThen]
            rfl
          · rw [len_eq, hsz]
            exact .slo 0 S.size (up_new ..) hge (by rw [up_sz]; exact ⟨by omega, by omega⟩)
        · cases h
      · cases h
    · cases h
  · cases h
/-! ### maps -/
theorem does_makeMap (hr : HR Fr W ρ H n w) {t : TypeId} (ho : o.op = .makeMap t none) : Does P Fr W ρ a w o (some (.map n)) (put H n (.map [] 0)) (n + 1) := by
  have hal := HR.alloc hr (.map #[] 0) (x := .map [] 0) (z := 0) ⟨[], World.alloc_heap_new w _, rfl, fun i e x h => by simp at h⟩
  refine ⟨_, _, hr.le _ _, hal, .map (some w.heap.size), ?_, .map (up_new ..)⟩
  simp [execOp, ho, Instr.makeMap]
def findV (d : TypeDesc) (k : Value) (es : List (V × V × Nat)) : Nat → Option (Option (Nat × V)) := List.rec (motive := fun _ => Nat → Option (Option (Nat × V))) (fun _ => some none) (fun e _ ih i => match to1 e.1 with
  | some ke => (match Instr.sameNow d k ke with
    | some true => some (some (i, e.2.1))
    | some false => ih (Nat.add i 1)
    | none => none)
  | none => none) es
theorem findV_run {d : TypeDesc} {k : Value} : ∀ {es : List (V × V × Nat)} {Es : List MapEntry} {i : Nat} {r : Option (Nat × V)}, Es.length = es.length → (∀ (i : Nat) (e : V × V × Nat) (x : MapEntry), es[i]? = some e → Es[i]? = some x → Den ρ e.1 x.key ∧ Den ρ e.2.1 x.val ∧ x.born = e.2.2) →
    findV d k es i = some r → match r with | none => Instr.findNow d k Es i = some none | some (j, v) => ∃ X, Den ρ v X ∧ Instr.findNow d k Es i = some (some (j, X))
  | [], Es, i, r, hl, _, h => by
    have : none = r := Option.some.inj h
    subst this
    have : Es = [] := List.eq_nil_of_length_eq_zero hl
    subst this
    rfl
  | e :: es, [], i, r, hl, _, h => by simp at hl
  | e :: es, x :: Es, i, r, hl, hd, h => by
    obtain ⟨d1, d2, _⟩ := hd 0 e x rfl rfl
    have eq : findV d k (e :: es) i = (match to1 e.1 with
      | some ke => (match Instr.sameNow d k ke with
        | some true => some (some (i, e.2.1))
        | some false => findV d k es (i + 1)
        | none => none)
      | none => none) := rfl
    rw [eq] at h
    split at h
    · rename_i ke hke
      have hk := to1_den hke d1
      simp only [Instr.findNow]
      rw [hk]
      split at h
      · rename_i hs
        cases h
        simp only [hs]
        exact ⟨x.val, d2, rfl⟩
      · rename_i hs
        simp only [hs]
        exact findV_run (by simpa using hl) (fun j a b h1 h2 => hd (j + 1) a b (by simpa using h1) (by simpa using h2)) h
      · cases h
    · cases h
def mapIn (H : T) (b : Nat) : Option (Nat × List (V × V × Nat) × Nat) := match get H b with | .map es c => some (b, es, c) | _ => none
def mapAt (H : T) (x : V) : Option (Nat × List (V × V × Nat) × Nat) := match x with
  | .map b => mapIn H b
  | _ => none
def insV (P : Program) (H : T) (n : Nat) (t : TypeId) (m k v : V) : Out := match unT P t with
  | some (.map kt _) => (match mapAt H m with
    | some (b, es, c) => (match to1 k with
      | some kv => (match still P (Instr.checkKey false 10000 kt kv) with
        | some _ => (match unT P kt with
          | some d => (match findV d kv es 0 with
            | some none => some (none, put H b (.map (app es [(k, v, c)]) (Nat.add c 1)), n)
            | _ => none)
          | none => none)
        | none => none)
      | none => none)
    | none => none)
  | _ => none
theorem mapAt_run (hr : HR Fr W ρ H n w) {x : V} {X : Value} {b c : Nat} {es : List (V × V × Nat)} (dx : Den ρ x X) (h : mapAt H x = some (b, es, c)) : ∃ (g : Nat) (Es : List MapEntry), x = .map b ∧ get H b = .map es c ∧ ρ b = some g ∧ X = .map (some g) ∧ w.heap[g]? = some (.map Es.toArray c) ∧ Es.length = es.length ∧ ∀ (i : Nat) (e : V × V × Nat) (x : MapEntry), es[i]? = some e → Es[i]? = some x → Den ρ e.1 x.key ∧ Den ρ e.2.1 x.val ∧ x.born = e.2.2 := by
  unfold mapAt at h
  split at h
  · unfold mapIn at h
    split at h
    · rename_i es' c' hb
      cases h
      cases dx with
      | map hg =>
        obtain ⟨g', e', l⟩ := hr.obj b (by rw [hb]; simp)
        rw [hg] at e'
        have := Option.some.inj e'
        subst this
        rw [hb] at l
        obtain ⟨Es, l1, l2, l3⟩ := l
        exact ⟨_, Es, rfl, hb, hg, rfl, l1, l2, l3⟩
    · cases h
  · cases h
theorem run_findKey {kt : TypeId} {d : TypeDesc} {k : Value} {es : List MapEntry} {r : Option (Nat × Value)} (hu : unT P kt = some d) (h : Instr.findNow d k es 0 = some r) (w : World) : (Instr.findKey kt k es).run P w = .ok r w := by
  simp only [Instr.findKey, Sem.run_bind, un_run hu, Result.andThen_ok, h]
  rfl
theorem does_ins (hr : HR Fr W ρ H n w) (he : HE ρ a N E) {t : TypeId} {m k x : Operand} {vm vk vx : V} {v : Option V} {H' : T} {n' : Nat} (ho : o.op = .insert t m k x ∨ o.op = .mapUpdate t m k x) (hm : evV E m = some vm) (hk : evV E k = some vk) (hx : evV E x = some vx) (h : insV P H n t vm vk vx = some (v, H', n')) : Does P Fr W ρ a w o v H' n' := by
  have dm := evV_den he hm
  have dk := evV_den he hk
  have dx := evV_den he hx
  unfold insV at h
  split at h
  · rename_i kt et hu
    split at h
    · rename_i b es c hmap
      split at h
      · rename_i kv hkv
        split at h
        · rename_i q hck
          split at h
          · rename_i d hud
            split at h
            · rename_i hf
              cases h
              obtain ⟨g, Es, _, hb, hg, ex, hw, l2, l3⟩ := mapAt_run hr dm hmap
              have ek := to1_den hkv dk
              have hfn := findV_run l2 l3 hf
              simp only at hfn
              have hfk := run_findKey (P := P) hud hfn
              have hck' := still_run hck
              let Y : MapEntry := { key := kv, val := a.eval x, born := c }
              have hw' : (w.putObj g (.map (Es.toArray.push Y) (c + 1))).heap[g]? = some (.map (Es ++ [Y]).toArray (c + 1)) := by
                rw [World.putObj_heap_same (Array.getElem?_eq_some_iff.1 hw).1]
                congr 2
                apply Array.ext'; simp
              have hch := HR.change hr (b := b) (x := .map (app es [(vk, vx, c)]) (c + 1)) (w' := w.putObj g (.map (Es.toArray.push Y) (c + 1))) (by rw [hb]; simp) hg
                ⟨Es ++ [Y], hw', by rw [app_eq]; simp [l2], fun i e y h1 h2 => by
                  rw [app_eq] at h1
                  by_cases hi : i < es.length
                  · rw [List.getElem?_append_left hi] at h1
                    rw [List.getElem?_append_left (by omega)] at h2
                    exact l3 i e y h1 h2
                  · rw [List.getElem?_append_right (by omega)] at h1
                    rw [List.getElem?_append_right (by omega), l2] at h2
                    by_cases hz : i - es.length = 0
                    · rw [hz] at h1 h2
                      simp at h1 h2
                      subst h1
                      subst h2
                      exact ⟨by show Den ρ vk kv; rw [← ek]; exact dk, dx, rfl⟩
                    · obtain ⟨j, hj⟩ : ∃ j, i - es.length = j + 1 := ⟨i - es.length - 1, by omega⟩
                      rw [hj] at h1; simp at h1⟩
                (fun k hk => World.putObj_heap_other hk) ⟨rfl, rfl, rfl, by simp, Nat.le_refl _⟩
              refine ⟨_, ρ, Le.refl ρ, hch, ?_⟩
              have hgo : (getObj g).run P w = .ok (.map Es.toArray c) w := by simp [getObj, Sem.run, hw]
              have hso : ∀ o', (setObj g o').run P w = .ok () (w.putObj g o') := fun o' => by simp [setObj, Sem.run, hw, World.putObj]
              have main : (Instr.mapUpdate t (a.eval m) (a.eval k) (a.eval x)).run P w = .ok () (w.putObj g (.map (Es.toArray.push Y) (c + 1))) := by
                rw [ex, ek]
                simp [Instr.mapUpdate, un_run hu, hgo, hck', hfk, hso]
                rfl
              rcases ho with ho | ho <;> simp [execOp, ho, main]
            · cases h
          · cases h
        · cases h
      · cases h
    · cases h
  · cases h
def lookV (P : Program) (H : T) (t : TypeId) (x k : V) (ok : Bool) : Option V := match unT P t with
  | some (.map kt et) => (match mapAt H x with
    | some (_, es, _) => (match to1 k with
      | some kv => (match still P (Instr.checkKey false 10000 kt kv) with
        | some _ => (match still P (Instr.checkKey true 10000 kt kv) with
          | some _ => (match unT P kt with
            | some d => (match findV d kv es 0 with
              | some (some (_, v)) => some (bif ok then .tup [v, .bool true] else v)
              | some none => (match still P (zeroValue et) with
                | some z => (match ofV z with | some v => some (bif ok then .tup [v, .bool false] else v) | none => none)
                | none => none)
              | none => none)
            | none => none)
          | none => none)
        | none => none)
      | none => none)
    | none => none)
  | _ => none
theorem does_look (hr : HR Fr W ρ H n w) (he : HE ρ a N E) {t : TypeId} {x k : Operand} {ok : Bool} {vx vk v : V} (ho : o.op = .lookup t x k ok) (hx : evV E x = some vx) (hk : evV E k = some vk) (h : lookV P H t vx vk ok = some v) : Does P Fr W ρ a w o (some v) H n := by
  have dx := evV_den he hx
  have dk := evV_den he hk
  unfold lookV at h
  split at h
  · rename_i kt et hu
    split at h
    · rename_i b es c hmap
      split at h
      · rename_i kv hkv
        split at h
        · rename_i q1 hc1
          split at h
          · rename_i q2 hc2
            split at h
            · rename_i d hud
              obtain ⟨g, Es, _, hb, hg, ex, hw, l2, l3⟩ := mapAt_run hr dx hmap
              have ek := to1_den hkv dk
              have hgo : (getObj g).run P w = .ok (.map Es.toArray c) w := by simp [getObj, Sem.run, hw]
              have hck : ∀ e : Bool, ∃ q, (Instr.checkKey e 10000 kt kv).run P w = .ok q w := fun e => by cases e; exact ⟨_, still_run hc1 w⟩; exact ⟨_, still_run hc2 w⟩
              obtain ⟨q, hck⟩ := hck Es.isEmpty
              split at h
              · rename_i j v' hf
                cases h
                have hfn := findV_run l2 l3 hf
                simp only at hfn
                obtain ⟨X, dX, hfn⟩ := hfn
                have hfk := run_findKey (P := P) hud hfn
                have main : (Instr.lookup t (a.eval x) (a.eval k) ok).run P w = .ok (if ok then .tuple #[X, .bool true] else X) w := by
                  rw [ex, ek]
                  simp [Instr.lookup, un_run hu, hgo, hck, hfk, Result.andThen]
                refine does_val hr (r := if ok then .tuple #[X, .bool true] else X) (by simp [execOp, ho, main]) ?_
                cases ok with
                | false => exact dX
                | true => exact (DL.cons dX (DL.cons (.bool true) DL.nil)).tup
              · rename_i hf
                split at h
                · rename_i z hz
                  split at h
                  · rename_i v' hv
                    cases h
                    have hfn := findV_run l2 l3 hf
                    simp only at hfn
                    have hfk := run_findKey (P := P) hud hfn
                    have hz' := still_run hz
                    have main : (Instr.lookup t (a.eval x) (a.eval k) ok).run P w = .ok (if ok then .tuple #[z, .bool false] else z) w := by
                      rw [ex, ek]
                      simp [Instr.lookup, un_run hu, hgo, hck, hfk, hz', Result.andThen]
                    have dz : Den ρ v' z := ofV_den hv
                    refine does_val hr (r := if ok then .tuple #[z, .bool false] else z) (by simp [execOp, ho, main]) ?_
                    cases ok with
                    | false => exact dz
                    | true => exact (DL.cons dz (DL.cons (.bool false) DL.nil)).tup
                  · cases h
                · cases h
              · cases h
            · cases h
          · cases h
        · cases h
      · cases h
    · cases h
  · cases h
end
end
end Go.Proofs.YtagbmfdheppmoaaGreatDoor.Vm
