import Derived.Test.YtagbmfdheppmoaaGreatDoorVmS
import Derived.Laws.IdiomStrings
/-
  Texts that are open; structs compared; conversions; maps.
-/
namespace Go.Proofs.YtagbmfdheppmoaaGreatDoor.Vm
set_option linter.unusedVariables false
set_option linter.unusedSimpArgs false
set_option linter.unusedSectionVars false
open Go.RowKit Go.Proofs.YtagbmfdheppmoaaGreatDoor.Sep
noncomputable section
variable [Vl]
/-! ### texts -/
def litB (l : List UInt8) : List Af := List.rec (motive := fun _ => List Af) [] (fun x _ ih => ⟨.ofNat (b8 x), []⟩ :: ih) l
theorem litB_map : ∀ l : List UInt8, (litB l).map Af.byte = l
  | [] => rfl
  | x :: l => by
    show Af.byte ⟨.ofNat (b8 x), []⟩ :: (litB l).map Af.byte = _
    rw [litB_map l]
    have : Af.byte ⟨.ofNat (b8 x), []⟩ = x := by
      unfold Af.byte; rw [lit_eval]
      show UInt8.ofNat (b8 x) = x
      exact UInt8.ofNat_toNat
    rw [this]
def symS (v : V) : Option (List Af) := match v with | .str s => some (litB s) | .ystr l => some l | _ => none
def yB (l : List Af) : ByteArray := ⟨(l.map Af.byte).toArray⟩
theorem symS_den {ρ : Pl} {v : V} {l : List Af} {x : Value} (h : symS v = some l) (d : Den ρ v x) : x = .string (yB l) := by
  unfold symS at h
  split at h
  · cases h; cases d; unfold yB; rw [litB_map]
  · cases h; cases d; rfl
  · cases h
def unlit (l : List Af) : Option (List UInt8) := oall (fun a => match litN a with | some n => some (UInt8.ofNat n) | none => none) l
theorem unlit_map : ∀ {l : List Af} {r : List UInt8}, unlit l = some r → l.map Af.byte = r
  | [], r, h => by have : [] = r := Option.some.inj h; subst this; rfl
  | a :: l, r, h => by
    obtain ⟨y, ys, h1, h2, rfl⟩ := oall_cons h
    rw [List.map_cons, unlit_map h2]
    split at h1
    · rename_i n hn
      cases h1
      have := litN_eval hn
      unfold Af.byte; rw [this]; rfl
    · cases h1
def mkS (l : List Af) : V := match unlit l with | some r => .str r | none => .ystr l
theorem mkS_den (ρ : Pl) (l : List Af) : Den ρ (mkS l) (.string (yB l)) := by
  unfold mkS
  split
  · rename_i r h; unfold yB; rw [unlit_map h]; exact .str r
  · exact .ystr l
def inB (a : Af) : Bool := inR 0 255 a
theorem inB_byte {a : Af} (h : inB a = true) : ((a.byte).toNat : Int) = a.eval ∧ 0 ≤ a.eval ∧ a.eval ≤ 255 := by
  have := inR_spec h
  refine ⟨?_, this⟩
  unfold Af.byte
  rw [UInt8.toNat_ofNat']
  omega
def eqB (p q : List Af) : Option Bool := List.rec (motive := fun _ => List Af → Option Bool) (fun q => match q with | [] => some true | _ => some false)
  (fun x _ ih q => match q with
    | [] => some false
    | y :: q => (match inB x && inB y with
      | true => (match decZ (afSub x y) with
        | some false => some false
        | some true => ih q
        | none => (match ih q with | some false => some false | _ => none))
      | false => none)) p q
theorem byte_eq {x y : Af} (h : (inB x && inB y) = true) : (x.byte = y.byte ↔ x.eval = y.eval) ∧ (x.byte < y.byte ↔ x.eval < y.eval) := by
  rw [Bool.and_eq_true] at h
  have h1 := inB_byte h.1
  have h2 := inB_byte h.2
  refine ⟨⟨fun e => ?_, fun e => ?_⟩, ?_⟩
  · have : x.byte.toNat = y.byte.toNat := by rw [e]
    omega
  · apply UInt8.toNat_inj.1; omega
  · rw [UInt8.lt_iff_toNat_lt]; omega
theorem eqB_eq : ∀ {p q : List Af} {b : Bool}, eqB p q = some b → (p.map Af.byte == q.map Af.byte) = b
  | [], [], b, h => by cases h; rfl
  | [], _ :: _, b, h => by cases h; rfl
  | _ :: _, [], b, h => by cases h; rfl
  | x :: p, y :: q, b, h => by
    have e : eqB (x :: p) (y :: q) = (match inB x && inB y with
      | true => (match decZ (afSub x y) with
        | some false => some false
        | some true => eqB p q
        | none => (match eqB p q with | some false => some false | _ => none))
      | false => none) := rfl
    rw [e] at h
    rw [List.map_cons, List.map_cons, List.cons_beq_cons]
    split at h
    · rename_i hin
      have hb := (byte_eq hin).1
      split at h
      · rename_i h1
        have := decZ_eq h1
        rw [afSub_eval, decide_eq_false_iff_not] at this
        cases h
        have : (x.byte == y.byte) = false := by
          rw [beq_eq_false_iff_ne]; exact fun e => this (by have := hb.1 e; omega)
        rw [this]; rfl
      · rename_i h1
        have := decZ_eq h1
        rw [afSub_eval, decide_eq_true_iff] at this
        have h3 := eqB_eq h
        have : x.byte = y.byte := hb.2 (by omega)
        rw [this, h3]; simp
      · split at h
        · rename_i h2
          cases h
          rw [eqB_eq h2]; simp
        · cases h
    · cases h
def ltB (p q : List Af) : Option Bool := List.rec (motive := fun _ => List Af → Option Bool) (fun q => match q with | [] => some false | _ => some true)
  (fun x _ ih q => match q with
    | [] => some false
    | y :: q => (match inB x && inB y with
      | true => (match decZ (afSub x y) with
        | some true => ih q
        | some false => decP (afSub y x)
        | none => none)
      | false => none)) p q
theorem ltB_eq : ∀ {p q : List Af} {b : Bool}, ltB p q = some b → Op.bytesLess (p.map Af.byte) (q.map Af.byte) = b
  | [], [], b, h => by cases h; rfl
  | [], _ :: _, b, h => by cases h; rfl
  | _ :: _, [], b, h => by cases h; rfl
  | x :: p, y :: q, b, h => by
    have e : ltB (x :: p) (y :: q) = (match inB x && inB y with
      | true => (match decZ (afSub x y) with
        | some true => ltB p q
        | some false => decP (afSub y x)
        | none => none)
      | false => none) := rfl
    rw [e] at h
    rw [List.map_cons, List.map_cons]
    simp only [Op.bytesLess]
    split at h
    · rename_i hin
      obtain ⟨hb, hlt⟩ := byte_eq hin
      split at h
      · rename_i h1
        have := decZ_eq h1
        rw [afSub_eval, decide_eq_true_iff] at this
        have e2 : x.byte = y.byte := hb.2 (by omega)
        rw [ltB_eq h]
        simp [e2]
      · rename_i h1
        have := decZ_eq h1
        rw [afSub_eval, decide_eq_false_iff_not] at this
        have e2 : ¬ (x.byte = y.byte) := fun e => this (by have := hb.1 e; omega)
        have h2 := decP_eq h
        rw [afSub_eval] at h2
        have e3 : decide (x.byte < y.byte) = b := by rw [← h2]; exact decide_eq_decide.2 (by rw [hlt]; omega)
        rw [e3]
        simp [e2]
      · cases h
    · cases h
def strS (op : BinOp) (p q : List Af) : Option V := match op with
  | .add => bif Nat.ble (len p + len q) 9223372036854775807 then some (mkS (app p q)) else none
  | .eql => (match eqB p q with | some b => some (.bool b) | none => none)
  | .neq => (match eqB p q with | some b => some (.bool (!b)) | none => none)
  | .lss => (match ltB p q with | some b => some (.bool b) | none => none)
  | .leq => (match ltB q p with | some b => some (.bool (!b)) | none => none)
  | .gtr => (match ltB q p with | some b => some (.bool b) | none => none)
  | .geq => (match ltB p q with | some b => some (.bool (!b)) | none => none)
  | _ => none
theorem bytesLess_leq : ∀ p q : List UInt8, (Op.bytesLess p q || (p == q)) = !Op.bytesLess q p
  | [], [] => rfl
  | [], _ :: _ => rfl
  | _ :: _, [] => rfl
  | x :: p, y :: q => by
    simp only [Op.bytesLess, List.cons_beq_cons]
    have ih := bytesLess_leq p q
    by_cases h1 : x = y
    · subst h1
      have : ¬ (x < x) := UInt8.lt_irrefl x
      simpa [this] using ih
    · by_cases h2 : x < y
      · have : ¬ (y < x) := UInt8.lt_asymm h2
        simp [h2, this, h1, Ne.symm h1]
      · have : y < x := by
          have h3 : ¬ x.toNat < y.toNat := fun e => h2 (UInt8.lt_iff_toNat_lt.2 e)
          have h4 : x.toNat ≠ y.toNat := fun e => h1 (UInt8.toNat_inj.1 e)
          exact UInt8.lt_iff_toNat_lt.2 (by omega)
        simp [h2, this, h1]
theorem strS_run {P : Program} {op : BinOp} {p q : List Af} {v : V} {ρ : Pl} (h : strS op p q = some v) : ∃ r, (∀ w, (Op.stringOp op (yB p) (yB q)).run P w = .ok r w) ∧ Den ρ v r := by
  have tl : ∀ p : List Af, (yB p).toList = p.map Af.byte := fun p => by unfold yB; simp only [ByteArray.toList_mk]
  unfold strS at h
  split at h <;> first | (cases h; done) | skip
  case h_1 =>
    cases hb : Nat.ble (len p + len q) 9223372036854775807 with
    | false => rw [hb] at h; cases h
    | true =>
      rw [hb] at h
      simp only [cond_true, Option.some.injEq] at h
      subst h
      have h1 := Nat.le_of_ble_eq_true hb
      rw [len_eq, len_eq] at h1
      refine ⟨_, fun w => ?_, mkS_den ρ _⟩
      have sz : ∀ p : List Af, (yB p).size = p.length := fun p => by unfold yB; show (p.map Af.byte).toArray.size = _; simp
      have h2 : ¬ ((((yB p).size + (yB q).size : Nat) : Int) > IntKind.i64.max) := by
        have : IntKind.i64.max = 9223372036854775807 := rfl
        rw [this, sz, sz]
        omega
      have e : yB p ++ yB q = yB (app p q) := by
        rw [app_eq]
        apply ByteArray.ext
        unfold yB
        simp
      simp only [Op.stringOp, if_neg h2, e]
      rfl
  all_goals
    split at h
    · rename_i b hb
      simp only [Option.some.injEq] at h
      subst h
      refine ⟨_, fun w => ?_, .bool _⟩
      simp only [Op.stringOp, tl]
      first
        | (rw [eqB_eq hb]; rfl)
        | (rw [ltB_eq hb]; rfl)
        | (rw [bytesLess_leq, ltB_eq hb]; simp; done)
        | (rw [bytesLess_leq, ltB_eq hb]; simp; rfl)
    · cases h
/-! ### structs -/
def eqF (P : Program) (rec_ : TypeId → V → V → Option Bool) (xs ys : List V) (fs : List Field) : Option Bool := List.rec (motive := fun _ => Option Bool) (some true) (fun f _ ih => match f.name == "_" with
  | true => ih
  | false => (match partV P f.type xs f.offset with
    | some a => (match partV P f.type ys f.offset with
      | some b => (match rec_ f.type a b with
        | some true => ih
        | some false => some false
        | none => none)
      | none => none)
    | none => none)) fs
def eqDB (P : Program) (ih : TypeId → V → V → Option Bool) (t : TypeId) (x y : V) : Option Bool := match unT P t with
  | some (.int _) => (match symI x with
    | some (k, a) => (match symI y with | some (k', b) => (match k == k' with | true => decZ (afSub a b) | false => none) | none => none)
    | none => none)
  | some .bool => (match x with | .bool a => (match y with | .bool b => some (a == b) | _ => none) | _ => none)
  | some .string => (match symS x with
    | some p => (match symS y with | some q => eqB p q | none => none)
    | none => none)
  | some (.struct fs) => (match P.stoodInHeld t with
    | false => (match x with
      | .agg xs => (match y with | .agg ys => eqF P ih xs ys fs.toList | _ => none)
      | _ => none)
    | true => none)
  | _ => none
def eqD (P : Program) (d : Nat) : TypeId → V → V → Option Bool := Nat.rec (motive := fun _ => TypeId → V → V → Option Bool) (fun _ _ _ => none) (fun _ ih => eqDB P ih) d
section
variable {P : Program} {ρ : Pl}
theorem eqF_run {d : Nat} {rec_ : TypeId → V → V → Option Bool} (hrec : ∀ t x y b X Y w, rec_ t x y = some b → Den ρ x X → Den ρ y Y → (Op.equalIn d t X Y).run P w = .ok b w) {xs ys : List V} {Xs Ys : List Value} (dx : DL ρ xs Xs) (dy : DL ρ ys Ys) :
    ∀ {fs : List Field} {b : Bool} {w : World}, eqF P rec_ xs ys fs = some b → (Op.eqFields d Xs.toArray Ys.toArray fs).run P w = .ok b w
  | [], b, w, h => by have : true = b := Option.some.inj h; subst this; rfl
  | f :: fs, b, w, h => by
    have e : eqF P rec_ xs ys (f :: fs) = (match f.name == "_" with
      | true => eqF P rec_ xs ys fs
      | false => (match partV P f.type xs f.offset with
        | some a => (match partV P f.type ys f.offset with
          | some b => (match rec_ f.type a b with
            | some true => eqF P rec_ xs ys fs
            | some false => some false
            | none => none)
          | none => none)
        | none => none)) := rfl
    rw [e] at h
    split at h
    · rename_i hn
      have hn : f.name = "_" := by simpa using hn
      simp only [Op.eqFields, hn, ne_eq, not_true_eq_false, if_false]
      exact eqF_run hrec dx dy h
    · rename_i hn
      have hn : ¬ (f.name = "_") := by simpa using hn
      split at h
      · rename_i a ha
        obtain ⟨A, d1, r1⟩ := partV_run ha dx
        split at h
        · rename_i c hc
          obtain ⟨C, d2, r2⟩ := partV_run hc dy
          split at h
          · rename_i h3
            have r3 := hrec _ _ _ _ A C w h3 d1 d2
            have ih := eqF_run hrec dx dy (w := w) h
            simp [Op.eqFields, hn, r1, r2, r3, ih]
          · rename_i h3
            have r3 := hrec _ _ _ _ A C w h3 d1 d2
            cases h
            simp [Op.eqFields, hn, r1, r2, r3]
          · cases h
        · cases h
      · cases h
theorem eqD_run : ∀ (d : Nat) (t : TypeId) (x y : V) (b : Bool) (X Y : Value) (w : World), eqD P d t x y = some b → Den ρ x X → Den ρ y Y → (Op.equalIn d t X Y).run P w = .ok b w
  | 0, t, x, y, b, X, Y, w, h, _, _ => by cases h
  | d + 1, t, x, y, b, X, Y, w, h, dx, dy => by
    have e : eqD P (d + 1) t x y = eqDB P (eqD P d) t x y := rfl
    rw [e] at h
    unfold eqDB at h
    have tl : ∀ p : List Af, (yB p).toList = p.map Af.byte := fun p => by unfold yB; simp only [ByteArray.toList_mk]
    split at h
    · rename_i kd hu
      split at h
      · rename_i k a hx
        split at h
        · rename_i k' c hy
          have hx := symI_den hx dx
          have hy := symI_den hy dy
          subst hx
          subst hy
          split at h
          · rename_i hk
            have hk : k = k' := by simpa using hk
            subst hk
            have := decZ_eq h
            rw [afSub_eval] at this
            have e2 : (a.eval == c.eval) = b := by rw [beq_dec, ← this]; exact decide_eq_decide.2 (by omega)
            simp [Op.equalIn, un_run hu, e2]
          · cases h
        · cases h
      · cases h
    · rename_i hu
      split at h
      · split at h
        · cases dx; cases dy
          cases h
          simp [Op.equalIn, un_run hu]
        · cases h
      · cases h
    · rename_i hu
      split at h
      · rename_i p hx
        split at h
        · rename_i q hy
          have hx := symS_den hx dx
          have hy := symS_den hy dy
          subst hx
          subst hy
          have := eqB_eq h
          simp only [Op.equalIn, Sem.run_bind, un_run hu, Result.andThen_ok]
          rw [beq_toListBytes, tl, tl, this]
          rfl
        · cases h
      · cases h
    · rename_i fs hu
      split at h
      · rename_i hp
        split at h
        · split at h
          · obtain ⟨As, rfl, d1⟩ := dx.ofAgg
            obtain ⟨Bs, rfl, d2⟩ := dy.ofAgg
            have hu' : P.underlying t = some (.struct fs) := by
              have := un_run hu default
              have e3 : (underlying t).run P default = (match P.underlying t with | some d => .ok d default | none => (underlying t).run P default) := by
                cases hq : P.underlying t with
                | none => rfl
                | some d => exact run_underlying hq default
              rw [e3] at this
              cases hq : P.underlying t with
              | none =>
                rw [hq] at this
                simp only at this
                exfalso
                simp [underlying, hq] at this
              | some d =>
                rw [hq] at this
                simp only [Result.ok.injEq, and_true] at this
                rw [this]
            have hf : P.fieldsOf t = fs := by simp [Program.fieldsOf, hu']
            rw [run_equalIn_struct w d t As.toArray Bs.toArray (by rw [hf]; exact hu') hp, hf]
            exact eqF_run (fun t x y b X Y w h dx dy => eqD_run d t x y b X Y w h dx dy) d1 d2 h
          · cases h
        · cases h
      · cases h
    · cases h
end
end
end Go.Proofs.YtagbmfdheppmoaaGreatDoor.Vm
