import Derived.Test.YtagbmfdheppmoaaGreatDoorVm9
import Derived.Laws.StructEq
import Derived.Laws.IdiomStrings
/-
  Numbers and texts that are open: sums, what is known of them, operations.
-/
namespace Go.Proofs.YtagbmfdheppmoaaGreatDoor.Vm
set_option linter.unusedVariables false
set_option linter.unusedSimpArgs false
set_option linter.unusedSectionVars false
open Go.RowKit Go.Proofs.YtagbmfdheppmoaaGreatDoor.Sep
noncomputable section
variable [Vl]
/-! ### sums -/
def ladd (a b : List Int) : List Int := List.rec (motive := fun _ => List Int → List Int) (fun b => b) (fun x _ ih b => List.rec (motive := fun _ => List Int) (x :: ih []) (fun y b _ => (x + y) :: ih b) b) a b
def lscale (k : Int) (l : List Int) : List Int := List.rec (motive := fun _ => List Int) [] (fun x _ ih => (k * x) :: ih) l
def lneg (l : List Int) : List Int := lscale (-1) l
def lzero (l : List Int) : Bool := List.rec (motive := fun _ => Bool) true (fun x _ ih => match ieq x 0 with | true => ih | false => false) l
def lmod (m : Int) (l : List Int) : Bool := List.rec (motive := fun _ => Bool) true (fun x _ ih => match ieq (x % m) 0 with | true => ih | false => false) l
theorem ieq_iff {a b : Int} : ieq a b = true ↔ a = b := by rw [ieq_eq]; simp
theorem ieq_no {a b : Int} : ieq a b = false ↔ a ≠ b := by rw [ieq_eq]; simp
theorem dot_nil (i : Nat) : dot [] i = 0 := rfl
theorem dot_cons (x : Int) (l : List Int) (i : Nat) : dot (x :: l) i = x * Vl.val i + dot l (i + 1) := rfl
theorem dot_add : ∀ (a b : List Int) (i : Nat), dot (ladd a b) i = dot a i + dot b i
  | [], b, i => by show dot b i = 0 + dot b i; omega
  | x :: a, [], i => by
    show dot (x :: ladd a []) i = _
    rw [dot_cons, dot_cons, dot_add a [] (i + 1), dot_nil, dot_nil]; omega
  | x :: a, y :: b, i => by
    show dot ((x + y) :: ladd a b) i = _
    rw [dot_cons, dot_cons, dot_cons, dot_add a b (i + 1), Int.add_mul]; omega
theorem dot_scale (k : Int) : ∀ (l : List Int) (i : Nat), dot (lscale k l) i = k * dot l i
  | [], i => by show (0 : Int) = k * 0; omega
  | x :: l, i => by
    show dot ((k * x) :: lscale k l) i = _
    rw [dot_cons, dot_cons, dot_scale k l (i + 1), Int.mul_add, Int.mul_assoc]
theorem dot_neg (l : List Int) (i : Nat) : dot (lneg l) i = - dot l i := by unfold lneg; rw [dot_scale]; omega
theorem dot_zero : ∀ {l : List Int} (i : Nat), lzero l = true → dot l i = 0
  | [], i, _ => rfl
  | x :: l, i, h => by
    have e : lzero (x :: l) = (match ieq x 0 with | true => lzero l | false => false) := rfl
    rw [e] at h
    split at h
    · rename_i h0; rw [dot_cons, dot_zero (i + 1) h, ieq_iff.1 h0]; omega
    · cases h
theorem dot_mod {m : Int} : ∀ {l : List Int} (i : Nat), lmod m l = true → ∃ z, dot l i = m * z
  | [], i, _ => ⟨0, by rw [dot_nil]; omega⟩
  | x :: l, i, h => by
    have e : lmod m (x :: l) = (match ieq (x % m) 0 with | true => lmod m l | false => false) := rfl
    rw [e] at h
    split at h
    · rename_i h0
      obtain ⟨z, hz⟩ := dot_mod (i + 1) h
      obtain ⟨y, hy⟩ := Int.dvd_of_emod_eq_zero (ieq_iff.1 h0)
      exact ⟨y * Vl.val i + z, by rw [dot_cons, hz, hy, Int.mul_add, Int.mul_assoc]⟩
    · cases h
def afAdd (a b : Af) : Af := ⟨a.c + b.c, ladd a.l b.l⟩
def afSub (a b : Af) : Af := ⟨a.c - b.c, ladd a.l (lneg b.l)⟩
def afNeg (a : Af) : Af := ⟨-a.c, lneg a.l⟩
def afMul (k : Int) (a : Af) : Af := ⟨k * a.c, lscale k a.l⟩
theorem afAdd_eval (a b : Af) : (afAdd a b).eval = a.eval + b.eval := by show a.c + b.c + dot (ladd a.l b.l) 0 = _; rw [dot_add]; unfold Af.eval; omega
theorem afSub_eval (a b : Af) : (afSub a b).eval = a.eval - b.eval := by show a.c - b.c + dot (ladd a.l (lneg b.l)) 0 = _; rw [dot_add, dot_neg]; unfold Af.eval; omega
theorem afNeg_eval (a : Af) : (afNeg a).eval = - a.eval := by show -a.c + dot (lneg a.l) 0 = _; rw [dot_neg]; unfold Af.eval; omega
theorem afMul_eval (k : Int) (a : Af) : (afMul k a).eval = k * a.eval := by show k * a.c + dot (lscale k a.l) 0 = _; rw [dot_scale]; unfold Af.eval; rw [Int.mul_add]
/-! ### what is known -/
def lEq (a b : List Int) : Bool := lzero (ladd a (lneg b))
theorem lEq_dot {a b : List Int} (h : lEq a b = true) (i : Nat) : dot a i = dot b i := by
  have := dot_zero i h
  rw [dot_add, dot_neg] at this
  omega
def imax (a b : Int) : Int := match ilt a b with | true => b | false => a
def factOf (l : List Int) (fs : List (List Int × Int)) : Option Int := List.rec (motive := fun _ => Option Int) none (fun p _ ih => match lEq p.1 l with
  | true => (match ih with | some b => some (imax p.2 b) | none => some p.2)
  | false => ih) fs
theorem factOf_le {l : List Int} {b : Int} : ∀ {fs : List (List Int × Int)}, (∀ p ∈ fs, p.2 ≤ dot p.1 0) → factOf l fs = some b → b ≤ dot l 0
  | [], _, h => by cases h
  | p :: fs, hf, h => by
    have e : factOf l (p :: fs) = (match lEq p.1 l with
      | true => (match factOf l fs with | some b => some (imax p.2 b) | none => some p.2)
      | false => factOf l fs) := rfl
    rw [e] at h
    have h1 := hf p (by simp)
    have h2 := fun q hq => hf q (List.mem_cons_of_mem p hq)
    split at h
    · rename_i he
      have h3 := lEq_dot he 0
      split at h
      · rename_i c hc
        have h4 := factOf_le h2 hc
        cases h
        unfold imax
        split <;> omega
      · cases h; omega
    · exact factOf_le h2 h
def unit_ (s : Int) (i : Nat) : List Int := Nat.rec (motive := fun _ => List Int) [s] (fun _ ih => 0 :: ih) i
theorem dot_unit (s : Int) : ∀ i j, dot (unit_ s i) j = s * Vl.val (j + i)
  | 0, j => by show dot [s] j = _; rw [dot_cons, dot_nil]; simp
  | i + 1, j => by
    show dot (0 :: unit_ s i) j = _
    rw [dot_cons, dot_unit s i (j + 1), show j + 1 + i = j + (i + 1) by omega]; omega
def lbU (l : List Int) : Nat → Option Int := List.rec (motive := fun _ => Nat → Option Int) (fun _ => some 0) (fun x _ ih i => match ih (Nat.add i 1) with
  | some b => (match ieq x 0 with
    | true => some b
    | false => (match ilt 0 x with
      | true => (match factOf (unit_ 1 i) Vl.facts with | some v => some (x * v + b) | none => none)
      | false => (match factOf (unit_ (-1) i) Vl.facts with | some v => some ((-x) * v + b) | none => none)))
  | none => none) l
theorem lbU_le : ∀ {l : List Int} {i : Nat} {b : Int}, lbU l i = some b → b ≤ dot l i
  | [], i, b, h => by have : (0 : Int) = b := Option.some.inj h; rw [dot_nil]; omega
  | x :: l, i, b, h => by
    have e : lbU (x :: l) i = (match lbU l (i + 1) with
      | some b => (match ieq x 0 with
        | true => some b
        | false => (match ilt 0 x with
          | true => (match factOf (unit_ 1 i) Vl.facts with | some v => some (x * v + b) | none => none)
          | false => (match factOf (unit_ (-1) i) Vl.facts with | some v => some ((-x) * v + b) | none => none)))
      | none => none) := rfl
    rw [e] at h
    rw [dot_cons]
    split at h
    · rename_i c hc
      have h1 := lbU_le hc
      split at h
      · rename_i h0; cases h; rw [ieq_iff.1 h0]; omega
      · split at h
        · rename_i hp
          rw [ilt_eq, decide_eq_true_iff] at hp
          split at h
          · rename_i v hv
            cases h
            have h2 := factOf_le Vl.holds hv
            rw [dot_unit] at h2
            have h3 : x * v ≤ x * Vl.val i := Int.mul_le_mul_of_nonneg_left (by simpa using h2) (by omega)
            omega
          · cases h
        · rename_i hp
          rw [ilt_eq, decide_eq_false_iff_not] at hp
          split at h
          · rename_i v hv
            cases h
            have h2 := factOf_le Vl.holds hv
            rw [dot_unit] at h2
            have h3 : (-x) * v ≤ (-x) * (-1 * Vl.val i) := Int.mul_le_mul_of_nonneg_left (by simpa using h2) (by omega)
            have h4 : (-x) * (-1 * Vl.val i) = x * Vl.val i := by rw [← Int.mul_assoc]; congr 1; omega
            omega
          · cases h
    · cases h
def lbd (l : List Int) : Option Int := match factOf l Vl.facts with
  | some b => (match lbU l 0 with | some c => some (imax b c) | none => some b)
  | none => lbU l 0
theorem lbd_le {l : List Int} {b : Int} (h : lbd l = some b) : b ≤ dot l 0 := by
  unfold lbd at h
  split at h
  · rename_i c hc
    have h1 := factOf_le Vl.holds hc
    split at h
    · rename_i d hd
      have h2 := lbU_le hd
      cases h
      unfold imax
      split
      · exact h2
      · exact h1
    · cases h; exact h1
  · exact lbU_le h
def lowA (a : Af) : Option Int := match lbd a.l with | some b => some (a.c + b) | none => none
def highA (a : Af) : Option Int := match lbd (lneg a.l) with | some b => some (a.c - b) | none => none
theorem lowA_le {a : Af} {b : Int} (h : lowA a = some b) : b ≤ a.eval := by
  unfold lowA at h
  split at h
  · rename_i c hc; have := lbd_le hc; cases h; unfold Af.eval; omega
  · cases h
theorem highA_le {a : Af} {b : Int} (h : highA a = some b) : a.eval ≤ b := by
  unfold highA at h
  split at h
  · rename_i c hc; have := lbd_le hc; rw [dot_neg] at this; cases h; unfold Af.eval; omega
  · cases h
def decP (a : Af) : Option Bool := match lowA a with
  | some b => (match ilt 0 b with
    | true => some true
    | false => (match highA a with | some c => (match ilt 0 c with | true => none | false => some false) | none => none))
  | none => (match highA a with | some c => (match ilt 0 c with | true => none | false => some false) | none => none)
theorem decP_eq {a : Af} {b : Bool} (h : decP a = some b) : decide (0 < a.eval) = b := by
  unfold decP at h
  have hi : (match highA a with | some c => (match ilt 0 c with | true => none | false => some false) | none => none) = some b → decide (0 < a.eval) = b := by
    intro h
    split at h
    · rename_i c hc
      have := highA_le hc
      split at h
      · cases h
      · rename_i h0
        rw [ilt_eq, decide_eq_false_iff_not] at h0
        cases h
        exact decide_eq_false (by omega)
    · cases h
  split at h
  · rename_i c hc
    have := lowA_le hc
    split at h
    · rename_i h0
      rw [ilt_eq, decide_eq_true_iff] at h0
      cases h
      exact decide_eq_true (by omega)
    · exact hi h
  · exact hi h
def decZ (a : Af) : Option Bool := match decP a with
  | some true => some false
  | some false => (match decP (afNeg a) with | some true => some false | some false => some true | none => none)
  | none => (match decP (afNeg a) with | some true => some false | _ => none)
theorem decZ_eq {a : Af} {b : Bool} (h : decZ a = some b) : decide (a.eval = 0) = b := by
  have n : ∀ {c}, decP (afNeg a) = some c → decide (0 < -a.eval) = c := fun h => by have := decP_eq h; rwa [afNeg_eval] at this
  unfold decZ at h
  split at h
  · rename_i h1
    have := decP_eq h1
    simp only [decide_eq_true_iff] at this
    cases h; exact decide_eq_false (by omega)
  · rename_i h1
    have := decP_eq h1
    simp only [decide_eq_false_iff_not] at this
    split at h
    · rename_i h2
      have := n h2
      simp only [decide_eq_true_iff] at this
      cases h; exact decide_eq_false (by omega)
    · rename_i h2
      have := n h2
      simp only [decide_eq_false_iff_not] at this
      cases h; exact decide_eq_true (by omega)
    · cases h
  · split at h
    · rename_i h2
      have := n h2
      simp only [decide_eq_true_iff] at this
      cases h; exact decide_eq_false (by omega)
    · cases h
def decC (c : Cn) : Option Bool := match c with
  | .pos a => decP a
  | .zero a => decZ a
  | .nzero a => (match decZ a with | some b => some (!b) | none => none)
theorem decC_eq {c : Cn} {b : Bool} (h : decC c = some b) : c.eval = b := by
  cases c with
  | pos a => exact decP_eq h
  | zero a => exact decZ_eq h
  | nzero a =>
    have h : (match decZ a with | some b => some (!b) | none => none) = some b := h
    split at h
    · rename_i c hc; have := decZ_eq hc; cases h; show (!decide (a.eval = 0)) = _; rw [this]
    · cases h
/-- What must be told of first. -/
def askC (c : Cn) : Af := match c with
  | .pos a => a
  | .zero a => (match decP a with | none => a | some _ => afNeg a)
  | .nzero a => (match decP a with | none => a | some _ => afNeg a)
def cnV (c : Cn) : V := match decC c with | some b => .bool b | none => .bsym c
theorem cnV_den (ρ : Pl) (c : Cn) : Den ρ (cnV c) (.bool c.eval) := by
  unfold cnV
  split
  · rename_i b h; rw [decC_eq h]; exact .bool b
  · exact .bsym c
/-! ### numbers -/
def mkI (k : IntKind) (a : Af) : V := match lzero a.l with | true => .int k a.c | false => .isym k a
theorem mkI_den (ρ : Pl) (k : IntKind) (a : Af) : Den ρ (mkI k a) (.int k a.eval) := by
  unfold mkI
  split
  · rename_i h
    have : a.eval = a.c := by unfold Af.eval; rw [dot_zero 0 h]; omega
    rw [this]; exact .int k _
  · exact .isym k a
def symI (v : V) : Option (IntKind × Af) := match v with | .int k n => some (k, ⟨n, []⟩) | .isym k a => some (k, a) | _ => none
theorem lit_eval (n : Int) : (⟨n, []⟩ : Af).eval = n := by show n + 0 = n; omega
theorem symI_den {ρ : Pl} {v : V} {k : IntKind} {a : Af} {x : Value} (h : symI v = some (k, a)) (d : Den ρ v x) : x = .int k a.eval := by
  unfold symI at h
  split at h
  · cases h; cases d; rw [lit_eval]
  · cases h; cases d; rfl
  · cases h
def kLow (k : IntKind) : Int := IntKind.rec (-128) (-32768) (-2147483648) (-9223372036854775808) 0 0 0 0 k
def kMod (k : IntKind) : Int := IntKind.rec 256 65536 4294967296 18446744073709551616 256 65536 4294967296 18446744073709551616 k
theorem wrap_k (k : IntKind) (n : Int) : k.wrap n = (n - kLow k) % kMod k + kLow k := by
  cases k
  · show IntKind.i8.wrap n = (n - (-128)) % 256 + (-128)
    simp [IntKind.wrap, IntKind.bits, IntKind.signed]; split <;> omega
  · show IntKind.i16.wrap n = (n - (-32768)) % 65536 + (-32768)
    simp [IntKind.wrap, IntKind.bits, IntKind.signed]; split <;> omega
  · show IntKind.i32.wrap n = (n - (-2147483648)) % 4294967296 + (-2147483648)
    rw [IntKind.wrap_i32]; omega
  · show IntKind.i64.wrap n = (n - (-9223372036854775808)) % 18446744073709551616 + (-9223372036854775808)
    rw [IntKind.wrap_i64]; omega
  · show IntKind.u8.wrap n = (n - 0) % 256 + 0
    rw [IntKind.wrap_u8]; omega
  · show IntKind.u16.wrap n = (n - 0) % 65536 + 0
    simp [IntKind.wrap, IntKind.bits, IntKind.signed]
  · show IntKind.u32.wrap n = (n - 0) % 4294967296 + 0
    rw [IntKind.wrap_u32]; omega
  · show IntKind.u64.wrap n = (n - 0) % 18446744073709551616 + 0
    rw [IntKind.wrap_u64]; omega
theorem kMod_pos (k : IntKind) : 0 < kMod k := by cases k <;> decide
def wrapA (k : IntKind) (a : Af) : Option Af := match lowA a with
  | some lo => (match highA a with
    | some hi => (match ieq ((lo - kLow k) / kMod k) ((hi - kLow k) / kMod k) with
      | true => some ⟨a.c - kMod k * ((lo - kLow k) / kMod k), a.l⟩
      | false => none)
    | none => none)
  | none => none
theorem ediv_mid {x lo hi m q : Int} (hm : 0 < m) (h1 : lo ≤ x) (h2 : x ≤ hi) (e1 : lo / m = q) (e2 : hi / m = q) : x / m = q := by
  have a1 := Int.ediv_le_ediv hm h1
  have a2 := Int.ediv_le_ediv hm h2
  omega
theorem wrapA_eval {k : IntKind} {a b : Af} (h : wrapA k a = some b) : b.eval = k.wrap a.eval := by
  unfold wrapA at h
  split at h
  · rename_i lo h1
    split at h
    · rename_i hi h2
      split at h
      · rename_i h3
        have h1 := lowA_le h1
        have h2 := highA_le h2
        have h3 := ieq_iff.1 h3
        cases h
        have hm := kMod_pos k
        have e := ediv_mid hm (x := a.eval - kLow k) (by omega) (by omega) rfl h3.symm
        rw [wrap_k]
        have := Int.mul_ediv_add_emod (a.eval - kLow k) (kMod k)
        rw [e] at this
        show a.c - kMod k * ((lo - kLow k) / kMod k) + dot a.l 0 = _
        have e2 : a.eval = a.c + dot a.l 0 := rfl
        omega
      · cases h
    · cases h
  · cases h
def inR (lo hi : Int) (a : Af) : Bool := match lowA a with
  | some x => (match highA a with | some y => (match ilt x lo with | true => false | false => !ilt hi y) | none => false)
  | none => false
theorem inR_spec {lo hi : Int} {a : Af} (h : inR lo hi a = true) : lo ≤ a.eval ∧ a.eval ≤ hi := by
  unfold inR at h
  split at h
  · rename_i x hx
    split at h
    · rename_i y hy
      have h1 := lowA_le hx
      have h2 := highA_le hy
      split at h
      · cases h
      · rename_i h3
        rw [ilt_eq, decide_eq_false_iff_not] at h3
        rw [ilt_eq] at h
        simp at h
        omega
    · cases h
  · cases h
def mkW (k : IntKind) (r : Option Af) : Option V := match r with | some a => some (mkI k a) | none => none
def litN (a : Af) : Option Nat := match lzero a.l with | true => (match a.c with | .ofNat n => some n | _ => none) | false => none
theorem litN_eval {a : Af} {n : Nat} (h : litN a = some n) : a.eval = n := by
  unfold litN at h
  split at h
  · rename_i h0
    split at h
    · rename_i m e
      cases h
      unfold Af.eval; rw [dot_zero 0 h0, e]; simp
    · cases h
  · cases h
def orA (a b : Af) : Option Af := match lmod 256 (a.c :: a.l) with
  | true => (match inR 0 4611686018427387904 a with
    | true => (match inR 0 255 b with | true => some (afAdd a b) | false => none)
    | false => none)
  | false => none
def or64 (k : IntKind) : Bool := IntKind.rec false false false true false false false true k
/-- What a sum that is not below zero is, divided. -/
def divA (a b : Af) : Option (Int × Int) := match litN b with
  | some n => (match n with
    | 0 => none
    | m + 1 => (match lowA a with
      | some lo => (match highA a with
        | some hi => (match ilt lo 0 with
          | true => none
          | false => (match ieq (lo / ((m + 1 : Nat) : Int)) (hi / ((m + 1 : Nat) : Int)) with | true => some (((m + 1 : Nat) : Int), lo / ((m + 1 : Nat) : Int)) | false => none))
        | none => none)
      | none => none))
  | none => none
theorem divA_spec {a b : Af} {m q : Int} (h : divA a b = some (m, q)) : b.eval = m ∧ 0 < m ∧ 0 ≤ a.eval ∧ a.eval / m = q := by
  unfold divA at h
  split at h
  · rename_i n hn
    split at h
    · cases h
    · rename_i m'
      split at h
      · rename_i lo hlo
        split at h
        · rename_i hi hhi
          split at h
          · cases h
          · rename_i hl
            split at h
            · rename_i he
              cases h
              have h1 := lowA_le hlo
              have h2 := highA_le hhi
              rw [ilt_eq] at hl
              have hl : ¬ lo < 0 := of_decide_eq_false hl
              exact ⟨litN_eval hn, by omega, by omega, ediv_mid (by omega) h1 h2 rfl (ieq_iff.1 he).symm⟩
            · cases h
        · cases h
      · cases h
  · cases h
def binS (op : BinOp) (k k' : IntKind) (a b : Af) : Option V := match op with
  | .add => (match k == k' with | true => mkW k (wrapA k (afAdd a b)) | false => none)
  | .sub => (match k == k' with | true => mkW k (wrapA k (afSub a b)) | false => none)
  | .mul => (match k == k' with
    | true => (match lzero a.l with
      | true => mkW k (wrapA k (afMul a.c b))
      | false => (match lzero b.l with | true => mkW k (wrapA k (afMul b.c a)) | false => none))
    | false => none)
  | .shl => (match litN b with
    | some n => (match Nat.ble n 8 with | true => mkW k (wrapA k (afMul (2 ^ n) a)) | false => none)
    | none => none)
  | .shr => (match litN b with
    | some 0 => some (mkI k a)
    | some n => (match lowA a with
      | some lo => (match highA a with
        | some hi => (match ieq (lo / 2 ^ (Nat.min n k.bits)) (hi / 2 ^ (Nat.min n k.bits)) with | true => some (.int k (lo / 2 ^ (Nat.min n k.bits))) | false => none)
        | none => none)
      | none => none)
    | none => none)
  | .or => (match k == k' with
    | true => (match or64 k with
      | true => (match orA a b with | some c => mkW k (wrapA k c) | none => (match orA b a with | some c => mkW k (wrapA k c) | none => none))
      | false => none)
    | false => none)
  | .rem => (match k == k' with | true => (match divA a b with | some (m, q) => some (mkI k ⟨a.c - m * q, a.l⟩) | none => none) | false => none)
  | .quo => (match k == k' with | true => (match divA a b with | some (m, q) => mkW k (wrapA k ⟨q, []⟩) | none => none) | false => none)
  | .lss => (match k == k' with | true => some (cnV (.pos (afSub b a))) | false => none)
  | .gtr => (match k == k' with | true => some (cnV (.pos (afSub a b))) | false => none)
  | .leq => (match k == k' with | true => some (cnV (.pos (afAdd (afSub b a) ⟨1, []⟩))) | false => none)
  | .geq => (match k == k' with | true => some (cnV (.pos (afAdd (afSub a b) ⟨1, []⟩))) | false => none)
  | .eql => (match k == k' with | true => some (cnV (.zero (afSub a b))) | false => none)
  | .neq => (match k == k' with | true => some (cnV (.nzero (afSub a b))) | false => none)
  | _ => none
theorem beq_dec (x y : Int) : (x == y) = decide (x = y) := by by_cases h : x = y <;> simp [h]
theorem mkW_some {k : IntKind} {r : Option Af} {v : V} (h : mkW k r = some v) : ∃ a, r = some a ∧ v = mkI k a := by
  unfold mkW at h
  split at h
  · rename_i a; cases h; exact ⟨a, rfl, rfl⟩
  · cases h
theorem or_nat (x y : Int) (z : Int) (hx : x = 256 * z) (h0 : 0 ≤ x) (h1 : x ≤ 4611686018427387904) (h2 : 0 ≤ y) (h3 : y ≤ 255) :
    (((BitVec.ofInt 64 x ||| BitVec.ofInt 64 y).toNat : Nat) : Int) = x + y := by
  obtain ⟨a, rfl⟩ := Int.eq_ofNat_of_zero_le h0
  obtain ⟨b, rfl⟩ := Int.eq_ofNat_of_zero_le h2
  have ea : (BitVec.ofInt 64 (a : Int)).toNat = a := by rw [BitVec.toNat_ofInt]; omega
  have eb : (BitVec.ofInt 64 (b : Int)).toNat = b := by rw [BitVec.toNat_ofInt]; omega
  rw [BitVec.toNat_or, ea, eb]
  obtain ⟨m, rfl⟩ : ∃ m, a = 2 ^ 8 * m := ⟨z.toNat, by omega⟩
  rw [← Nat.two_pow_add_eq_or_of_lt (by omega) m]
  omega
theorem binS_run {P : Program} {op : BinOp} {xt : TypeId} {k k' : IntKind} {a b : Af} {v : V} {ρ : Pl} (h : binS op k k' a b = some v) : ∃ r, (∀ w, (binOp op xt (.int k a.eval) (.int k' b.eval)).run P w = .ok r w) ∧ Den ρ v r := by
  have ar : ∀ {c : Af} {X : Int}, c.eval = X → ∀ (r : Option Af), r = wrapA k c → mkW k r = some v → Den ρ v (.int k (k.wrap X)) := by
    intro c X hc r hr h
    subst hr
    obtain ⟨d, h1, rfl⟩ := mkW_some h
    rw [← hc, ← wrapA_eval h1]
    exact mkI_den ρ k d
  have cm : ∀ (c : Cn) (B : Bool), c.eval = B → some (cnV c) = some v → Den ρ v (.bool B) := by
    intro c B hc h
    cases h
    rw [← hc]; exact cnV_den ρ c
  have e1 : ∀ {c : Af}, (afAdd c ⟨1, []⟩).eval = c.eval + 1 := by intro c; rw [afAdd_eval, lit_eval]
  unfold binS at h
  split at h
  case h_4 => -- shl
    split at h
    · rename_i n hn
      split at h
      · rename_i hle
        have hle := Nat.le_of_ble_eq_true hle
        have hb : n ≤ k.bits := by cases k <;> exact Nat.le_trans hle (by decide)
        refine ⟨_, fun w => ?_, ar (afMul_eval _ a) _ rfl h⟩
        rw [litN_eval hn]
        have hn0 : ¬ ((n : Int) < 0) := by omega
        simp [binOp, Op.shift, hn0, Int.mul_comm, Nat.min_eq_left hb]
      · cases h
    · cases h
  case h_5 => -- shr
    split at h
    · rename_i hn
      cases h
      refine ⟨.int k a.eval, fun w => ?_, mkI_den ρ k a⟩
      rw [litN_eval hn]
      simp [binOp, Op.shift]
    · rename_i n hn0 hn
      split at h
      · rename_i lo hlo
        split at h
        · rename_i hi hhi
          split at h
          · rename_i he
            cases h
            have h1 := lowA_le hlo
            have h2 := highA_le hhi
            have hp : (0 : Int) < 2 ^ (min n k.bits) := Int.pow_pos (by decide)
            have e := ediv_mid hp h1 h2 rfl (ieq_iff.1 he).symm
            refine ⟨.int k (a.eval.fdiv (2 ^ (min n k.bits))), fun w => ?_, ?_⟩
            · rw [litN_eval hn]
              have hn0 : ¬ ((n : Int) < 0) := by omega
              simp [binOp, Op.shift, hn0]
            · rw [Int.fdiv_eq_ediv_of_nonneg _ (by omega), e]
              exact .int k _
          · cases h
        · cases h
      · cases h
    · cases h
  case h_6 => -- or
    split at h
    · rename_i hk
      have hk : k = k' := by simpa using hk
      subst hk
      split at h
      · rename_i h64
        have main : ∀ {x y : Af} {c : Af}, orA x y = some c → ((BitVec.ofInt k.bits x.eval ||| BitVec.ofInt k.bits y.eval).toNat : Int) = c.eval := by
          intro x y c hc
          unfold orA at hc
          split at hc
          · rename_i g1
            split at hc
            · rename_i g2
              split at hc
              · rename_i g3
                cases hc
                have g2 := inR_spec g2
                have g3 := inR_spec g3
                obtain ⟨z, hz⟩ : ∃ z, x.eval = 256 * z := by
                  have e : lmod 256 (x.c :: x.l) = (match ieq (x.c % 256) 0 with | true => lmod 256 x.l | false => false) := rfl
                  rw [e] at g1
                  split at g1
                  · rename_i g4
                    obtain ⟨z, hz⟩ := dot_mod 0 g1
                    obtain ⟨y, hy⟩ := Int.dvd_of_emod_eq_zero (ieq_iff.1 g4)
                    exact ⟨y + z, by unfold Af.eval; rw [hz, hy, Int.mul_add]⟩
                  · cases g1
                rw [afAdd_eval]
                have hb : k.bits = 64 := by cases k <;> first | rfl | (exact absurd h64 (by decide))
                have := or_nat x.eval y.eval z hz g2.1 g2.2 g3.1 g3.2
                rw [hb]; exact this
              · cases hc
            · cases hc
          · cases hc
        split at h
        · rename_i c hc
          refine ⟨_, fun w => ?_, ar (main hc).symm _ rfl h⟩
          simp [binOp, Op.intBits]
        · split at h
          · rename_i c hc
            refine ⟨_, fun w => ?_, ar (main hc).symm _ rfl h⟩
            rw [BitVec.or_comm]
            simp [binOp, Op.intBits]
          · cases h
      · cases h
    · cases h
  case h_3 => -- mul
    split at h
    · rename_i hk
      have hk : k = k' := by simpa using hk
      subst hk
      split at h
      · rename_i hz
        refine ⟨_, fun w => ?_, ar (afMul_eval _ b) _ rfl h⟩
        have : a.eval = a.c := by unfold Af.eval; rw [dot_zero 0 hz]; omega
        rw [this]; simp [binOp, Op.intArith]
      · split at h
        · rename_i hz
          refine ⟨_, fun w => ?_, ar (afMul_eval _ a) _ rfl h⟩
          have : b.eval = b.c := by unfold Af.eval; rw [dot_zero 0 hz]; omega
          rw [this, Int.mul_comm]; simp [binOp, Op.intArith]
        · cases h
    · cases h
  case h_15 => cases h
  case h_7 => -- rem
    split at h
    · rename_i hk
      have hk : k = k' := by simpa using hk
      subst hk
      split at h
      · rename_i m q hd
        obtain ⟨d1, d2, d3, d4⟩ := divA_spec hd
        cases h
        have hm : m ≠ 0 := by omega
        refine ⟨.int k (a.eval.tmod m), fun w => ?_, ?_⟩
        · rw [d1]; simp [binOp, Op.intDiv, hm]
        · have e : (⟨a.c - m * q, a.l⟩ : Af).eval = a.eval.tmod m := by
            rw [Int.tmod_eq_emod_of_nonneg d3]
            have := Int.mul_ediv_add_emod a.eval m
            rw [d4] at this
            show a.c - m * q + dot a.l 0 = _
            have e2 : a.eval = a.c + dot a.l 0 := rfl
            omega
          rw [← e]; exact mkI_den ρ k _
      · cases h
    · cases h
  case h_8 => -- quo
    split at h
    · rename_i hk
      have hk : k = k' := by simpa using hk
      subst hk
      split at h
      · rename_i m q hd
        obtain ⟨d1, d2, d3, d4⟩ := divA_spec hd
        have hm : m ≠ 0 := by omega
        refine ⟨_, fun w => ?_, ar (X := a.eval.tdiv m) (c := ⟨q, []⟩) (by rw [lit_eval, Int.tdiv_eq_ediv_of_nonneg d3, d4]) _ rfl h⟩
        rw [d1]; simp [binOp, Op.intDiv, hm]
      · cases h
    · cases h
  all_goals
    split at h
    · rename_i hk
      have hk : k = k' := by simpa using hk
      subst hk
      first
        | (refine ⟨_, fun w => ?_, ar (afAdd_eval a b) _ rfl h⟩; simp [binOp, Op.intArith]; done)
        | (refine ⟨_, fun w => ?_, ar (afSub_eval a b) _ rfl h⟩; simp [binOp, Op.intArith]; done)
        | (refine ⟨.bool (decide (a.eval < b.eval)), fun w => ?_, cm _ _ ?_ h⟩
           · simp [binOp, Op.intCmp]; done
           · show decide (0 < (afSub b a).eval) = _
             rw [afSub_eval]; exact decide_eq_decide.2 (by omega))
        | (refine ⟨.bool (decide (a.eval > b.eval)), fun w => ?_, cm _ _ ?_ h⟩
           · simp [binOp, Op.intCmp]; done
           · show decide (0 < (afSub a b).eval) = _
             rw [afSub_eval]; exact decide_eq_decide.2 (by omega))
        | (refine ⟨.bool (decide (a.eval ≤ b.eval)), fun w => ?_, cm _ _ ?_ h⟩
           · simp [binOp, Op.intCmp]; done
           · show decide (0 < (afAdd (afSub b a) ⟨1, []⟩).eval) = _
             rw [e1, afSub_eval]; exact decide_eq_decide.2 (by omega))
        | (refine ⟨.bool (decide (a.eval ≥ b.eval)), fun w => ?_, cm _ _ ?_ h⟩
           · simp [binOp, Op.intCmp]; done
           · show decide (0 < (afAdd (afSub a b) ⟨1, []⟩).eval) = _
             rw [e1, afSub_eval]; exact decide_eq_decide.2 (by omega))
        | (refine ⟨.bool (a.eval == b.eval), fun w => ?_, cm _ _ ?_ h⟩
           · simp only [binOp, ne_eq, not_true_eq_false, if_false, Op.intCmp]; rfl
           · show decide ((afSub a b).eval = 0) = _
             rw [afSub_eval, beq_dec]; exact decide_eq_decide.2 (by omega))
        | (refine ⟨.bool (!(a.eval == b.eval)), fun w => ?_, cm _ _ ?_ h⟩
           · simp only [binOp, ne_eq, not_true_eq_false, if_false, Op.intCmp]; rfl
           · show (!decide ((afSub a b).eval = 0)) = _
             rw [afSub_eval, beq_dec]; congr 1; exact decide_eq_decide.2 (by omega))
    · cases h
end
end Go.Proofs.YtagbmfdheppmoaaGreatDoor.Vm

/-
  Texts that are open; structs compared; conversions; maps.
-/
namespace Go.Proofs.YtagbmfdheppmoaaGreatDoor.Vm
set_option linter.unusedVariables false
set_option linter.unusedSimpArgs false
set_option linter.unusedSectionVars false
open Go.RowKit Go.Proofs.YtagbmfdheppmoaaGreatDoor.Sep
noncomputable section
variable [Vl]
/-! ### texts -/
def litB (l : List UInt8) : List Af := List.rec (motive := fun _ => List Af) [] (fun x _ ih => ⟨.ofNat (b8 x), []⟩ :: ih) l
theorem litB_map : ∀ l : List UInt8, (litB l).map Af.byte = l
  | [] => rfl
  | x :: l => by
    show Af.byte ⟨.ofNat (b8 x), []⟩ :: (litB l).map Af.byte = _
    rw [litB_map l]
    have : Af.byte ⟨.ofNat (b8 x), []⟩ = x := by
      unfold Af.byte; rw [lit_eval]
      show UInt8.ofNat (b8 x) = x
      exact UInt8.ofNat_toNat
    rw [this]
def symS (v : V) : Option (List Af) := match v with | .str s => some (litB s) | .ystr l => some l | _ => none
def yB (l : List Af) : ByteArray := ⟨(l.map Af.byte).toArray⟩
theorem symS_den {ρ : Pl} {v : V} {l : List Af} {x : Value} (h : symS v = some l) (d : Den ρ v x) : x = .string (yB l) := by
  unfold symS at h
  split at h
  · cases h; cases d; unfold yB; rw [litB_map]
  · cases h; cases d; rfl
  · cases h
def unlit (l : List Af) : Option (List UInt8) := oall (fun a => match litN a with | some n => some (UInt8.ofNat n) | none => none) l
theorem unlit_map : ∀ {l : List Af} {r : List UInt8}, unlit l = some r → l.map Af.byte = r
  | [], r, h => by have : [] = r := Option.some.inj h; subst this; rfl
  | a :: l, r, h => by
    obtain ⟨y, ys, h1, h2, rfl⟩ := oall_cons h
    rw [List.map_cons, unlit_map h2]
    split at h1
    · rename_i n hn
      cases h1
      have := litN_eval hn
      unfold Af.byte; rw [this]; rfl
    · cases h1
def mkS (l : List Af) : V := match unlit l with | some r => .str r | none => .ystr l
theorem mkS_den (ρ : Pl) (l : List Af) : Den ρ (mkS l) (.string (yB l)) := by
  unfold mkS
  split
  · rename_i r h; unfold yB; rw [unlit_map h]; exact .str r
  · exact .ystr l
def inB (a : Af) : Bool := inR 0 255 a
theorem inB_byte {a : Af} (h : inB a = true) : ((a.byte).toNat : Int) = a.eval ∧ 0 ≤ a.eval ∧ a.eval ≤ 255 := by
  have := inR_spec h
  refine ⟨?_, this⟩
  unfold Af.byte
  rw [UInt8.toNat_ofNat']
  omega
def eqB (p q : List Af) : Option Bool := List.rec (motive := fun _ => List Af → Option Bool) (fun q => match q with | [] => some true | _ => some false)
  (fun x _ ih q => match q with
    | [] => some false
    | y :: q => (match inB x && inB y with
      | true => (match decZ (afSub x y) with
        | some false => some false
        | some true => ih q
        | none => (match ih q with | some false => some false | _ => none))
      | false => none)) p q
theorem byte_eq {x y : Af} (h : (inB x && inB y) = true) : (x.byte = y.byte ↔ x.eval = y.eval) ∧ (x.byte < y.byte ↔ x.eval < y.eval) := by
  rw [Bool.and_eq_true] at h
  have h1 := inB_byte h.1
  have h2 := inB_byte h.2
  refine ⟨⟨fun e => ?_, fun e => ?_⟩, ?_⟩
  · have : x.byte.toNat = y.byte.toNat := by rw [e]
    omega
  · apply UInt8.toNat_inj.1; omega
  · rw [UInt8.lt_iff_toNat_lt]; omega
theorem eqB_eq : ∀ {p q : List Af} {b : Bool}, eqB p q = some b → (p.map Af.byte == q.map Af.byte) = b
  | [], [], b, h => by cases h; rfl
  | [], _ :: _, b, h => by cases h; rfl
  | _ :: _, [], b, h => by cases h; rfl
  | x :: p, y :: q, b, h => by
    have e : eqB (x :: p) (y :: q) = (match inB x && inB y with
      | true => (match decZ (afSub x y) with
        | some false => some false
        | some true => eqB p q
        | none => (match eqB p q with | some false => some false | _ => none))
      | false => none) := rfl
    rw [e] at h
    rw [List.map_cons, List.map_cons, List.cons_beq_cons]
    split at h
    · rename_i hin
      have hb := (byte_eq hin).1
      split at h
      · rename_i h1
        have := decZ_eq h1
        rw [afSub_eval, decide_eq_false_iff_not] at this
        cases h
        have : (x.byte == y.byte) = false := by
          rw [beq_eq_false_iff_ne]; exact fun e => this (by have := hb.1 e; omega)
        rw [this]; rfl
      · rename_i h1
        have := decZ_eq h1
        rw [afSub_eval, decide_eq_true_iff] at this
        have h3 := eqB_eq h
        have : x.byte = y.byte := hb.2 (by omega)
        rw [this, h3]; simp
      · split at h
        · rename_i h2
          cases h
          rw [eqB_eq h2]; simp
        · cases h
    · cases h
def ltB (p q : List Af) : Option Bool := List.rec (motive := fun _ => List Af → Option Bool) (fun q => match q with | [] => some false | _ => some true)
  (fun x _ ih q => match q with
    | [] => some false
    | y :: q => (match inB x && inB y with
      | true => (match decZ (afSub x y) with
        | some true => ih q
        | some false => decP (afSub y x)
        | none => none)
      | false => none)) p q
theorem ltB_eq : ∀ {p q : List Af} {b : Bool}, ltB p q = some b → Op.bytesLess (p.map Af.byte) (q.map Af.byte) = b
  | [], [], b, h => by cases h; rfl
  | [], _ :: _, b, h => by cases h; rfl
  | _ :: _, [], b, h => by cases h; rfl
  | x :: p, y :: q, b, h => by
    have e : ltB (x :: p) (y :: q) = (match inB x && inB y with
      | true => (match decZ (afSub x y) with
        | some true => ltB p q
        | some false => decP (afSub y x)
        | none => none)
      | false => none) := rfl
    rw [e] at h
    rw [List.map_cons, List.map_cons]
    simp only [Op.bytesLess]
    split at h
    · rename_i hin
      obtain ⟨hb, hlt⟩ := byte_eq hin
      split at h
      · rename_i h1
        have := decZ_eq h1
        rw [afSub_eval, decide_eq_true_iff] at this
        have e2 : x.byte = y.byte := hb.2 (by omega)
        rw [ltB_eq h]
        simp [e2]
      · rename_i h1
        have := decZ_eq h1
        rw [afSub_eval, decide_eq_false_iff_not] at this
        have e2 : ¬ (x.byte = y.byte) := fun e => this (by have := hb.1 e; omega)
        have h2 := decP_eq h
        rw [afSub_eval] at h2
        have e3 : decide (x.byte < y.byte) = b := by rw [← h2]; exact decide_eq_decide.2 (by rw [hlt]; omega)
        rw [e3]
        simp [e2]
      · cases h
    · cases h
def strS (op : BinOp) (p q : List Af) : Option V := match op with
  | .add => bif Nat.ble (len p + len q) 9223372036854775807 then some (mkS (app p q)) else none
  | .eql => (match eqB p q with | some b => some (.bool b) | none => none)
  | .neq => (match eqB p q with | some b => some (.bool (!b)) | none => none)
  | .lss => (match ltB p q with | some b => some (.bool b) | none => none)
  | .leq => (match ltB q p with | some b => some (.bool (!b)) | none => none)
  | .gtr => (match ltB q p with | some b => some (.bool b) | none => none)
  | .geq => (match ltB p q with | some b => some (.bool (!b)) | none => none)
  | _ => none
theorem bytesLess_leq : ∀ p q : List UInt8, (Op.bytesLess p q || (p == q)) = !Op.bytesLess q p
  | [], [] => rfl
  | [], _ :: _ => rfl
  | _ :: _, [] => rfl
  | x :: p, y :: q => by
    simp only [Op.bytesLess, List.cons_beq_cons]
    have ih := bytesLess_leq p q
    by_cases h1 : x = y
    · subst h1
      have : ¬ (x < x) := UInt8.lt_irrefl x
      simpa [this] using ih
    · by_cases h2 : x < y
      · have : ¬ (y < x) := UInt8.lt_asymm h2
        simp [h2, this, h1, Ne.symm h1]
      · have : y < x := by
          have h3 : ¬ x.toNat < y.toNat := fun e => h2 (UInt8.lt_iff_toNat_lt.2 e)
          have h4 : x.toNat ≠ y.toNat := fun e => h1 (UInt8.toNat_inj.1 e)
          exact UInt8.lt_iff_toNat_lt.2 (by omega)
        simp [h2, this, h1]
theorem strS_run {P : Program} {op : BinOp} {p q : List Af} {v : V} {ρ : Pl} (h : strS op p q = some v) : ∃ r, (∀ w, (Op.stringOp op (yB p) (yB q)).run P w = .ok r w) ∧ Den ρ v r := by
  have tl : ∀ p : List Af, (yB p).toList = p.map Af.byte := fun p => by unfold yB; simp only [ByteArray.toList_mk]
  unfold strS at h
  split at h <;> first | (cases h; done) | skip
  case h_1 =>
    cases hb : Nat.ble (len p + len q) 9223372036854775807 with
    | false => rw [hb] at h; cases h
    | true =>
      rw [hb] at h
      simp only [cond_true, Option.some.injEq] at h
      subst h
      have h1 := Nat.le_of_ble_eq_true hb
      rw [len_eq, len_eq] at h1
      refine ⟨_, fun w => ?_, mkS_den ρ _⟩
      have sz : ∀ p : List Af, (yB p).size = p.length := fun p => by unfold yB; show (p.map Af.byte).toArray.size = _; simp
      have h2 : ¬ ((((yB p).size + (yB q).size : Nat) : Int) > IntKind.i64.max) := by
        have : IntKind.i64.max = 9223372036854775807 := rfl
        rw [this, sz, sz]
        omega
      have e : yB p ++ yB q = yB (app p q) := by
        rw [app_eq]
        apply ByteArray.ext
        unfold yB
        simp
      simp only [Op.stringOp, if_neg h2, e]
      rfl
  all_goals
    split at h
    · rename_i b hb
      simp only [Option.some.injEq] at h
      subst h
      refine ⟨_, fun w => ?_, .bool _⟩
      simp only [Op.stringOp, tl]
      first
        | (rw [eqB_eq hb]; rfl)
        | (rw [ltB_eq hb]; rfl)
        | (rw [bytesLess_leq, ltB_eq hb]; simp; done)
        | (rw [bytesLess_leq, ltB_eq hb]; simp; rfl)
    · cases h
/-! ### structs -/
def eqF (P : Program) (rec_ : TypeId → V → V → Option Bool) (xs ys : List V) (fs : List Field) : Option Bool := List.rec (motive := fun _ => Option Bool) (some true) (fun f _ ih => match f.name == "_" with
  | true => ih
  | false => (match partV P f.type xs f.offset with
    | some a => (match partV P f.type ys f.offset with
      | some b => (match rec_ f.type a b with
        | some true => ih
        | some false => some false
        | none => none)
      | none => none)
    | none => none)) fs
def eqDB (P : Program) (ih : TypeId → V → V → Option Bool) (t : TypeId) (x y : V) : Option Bool := match unT P t with
  | some (.int _) => (match symI x with
    | some (k, a) => (match symI y with | some (k', b) => (match k == k' with | true => decZ (afSub a b) | false => none) | none => none)
    | none => none)
  | some .bool => (match x with | .bool a => (match y with | .bool b => some (a == b) | _ => none) | _ => none)
  | some .string => (match symS x with
    | some p => (match symS y with | some q => eqB p q | none => none)
    | none => none)
  | some (.struct fs) => (match P.stoodInHeld t with
    | false => (match x with
      | .agg xs => (match y with | .agg ys => eqF P ih xs ys fs.toList | _ => none)
      | _ => none)
    | true => none)
  | _ => none
def eqD (P : Program) (d : Nat) : TypeId → V → V → Option Bool := Nat.rec (motive := fun _ => TypeId → V → V → Option Bool) (fun _ _ _ => none) (fun _ ih => eqDB P ih) d
section
variable {P : Program} {ρ : Pl}
theorem eqF_run {d : Nat} {rec_ : TypeId → V → V → Option Bool} (hrec : ∀ t x y b X Y w, rec_ t x y = some b → Den ρ x X → Den ρ y Y → (Op.equalIn d t X Y).run P w = .ok b w) {xs ys : List V} {Xs Ys : List Value} (dx : DL ρ xs Xs) (dy : DL ρ ys Ys) :
    ∀ {fs : List Field} {b : Bool} {w : World}, eqF P rec_ xs ys fs = some b → (Op.eqFields d Xs.toArray Ys.toArray fs).run P w = .ok b w
  | [], b, w, h => by have : true = b := Option.some.inj h; subst this; rfl
  | f :: fs, b, w, h => by
    have e : eqF P rec_ xs ys (f :: fs) = (match f.name == "_" with
      | true => eqF P rec_ xs ys fs
      | false => (match partV P f.type xs f.offset with
        | some a => (match partV P f.type ys f.offset with
          | some b => (match rec_ f.type a b with
            | some true => eqF P rec_ xs ys fs
            | some false => some false
            | none => none)
          | none => none)
        | none => none)) := rfl
    rw [e] at h
    split at h
    · rename_i hn
      have hn : f.name = "_" := by simpa using hn
      simp only [Op.eqFields, hn, ne_eq, not_true_eq_false, if_false]
      exact eqF_run hrec dx dy h
    · rename_i hn
      have hn : ¬ (f.name = "_") := by simpa using hn
      split at h
      · rename_i a ha
        obtain ⟨A, d1, r1⟩ := partV_run ha dx
        split at h
        · rename_i c hc
          obtain ⟨C, d2, r2⟩ := partV_run hc dy
          split at h
          · rename_i h3
            have r3 := hrec _ _ _ _ A C w h3 d1 d2
            have ih := eqF_run hrec dx dy (w := w) h
            simp [Op.eqFields, hn, r1, r2, r3, ih]
          · rename_i h3
            have r3 := hrec _ _ _ _ A C w h3 d1 d2
            cases h
            simp [Op.eqFields, hn, r1, r2, r3]
          · cases h
        · cases h
      · cases h
theorem eqD_run : ∀ (d : Nat) (t : TypeId) (x y : V) (b : Bool) (X Y : Value) (w : World), eqD P d t x y = some b → Den ρ x X → Den ρ y Y → (Op.equalIn d t X Y).run P w = .ok b w
  | 0, t, x, y, b, X, Y, w, h, _, _ => by cases h
  | d + 1, t, x, y, b, X, Y, w, h, dx, dy => by
    have e : eqD P (d + 1) t x y = eqDB P (eqD P d) t x y := rfl
    rw [e] at h
    unfold eqDB at h
    have tl : ∀ p : List Af, (yB p).toList = p.map Af.byte := fun p => by unfold yB; simp only [ByteArray.toList_mk]
    split at h
    · rename_i kd hu
      split at h
      · rename_i k a hx
        split at h
        · rename_i k' c hy
          have hx := symI_den hx dx
          have hy := symI_den hy dy
          subst hx
          subst hy
          split at h
          · rename_i hk
            have hk : k = k' := by simpa using hk
            subst hk
            have := decZ_eq h
            rw [afSub_eval] at this
            have e2 : (a.eval == c.eval) = b := by rw [beq_dec, ← this]; exact decide_eq_decide.2 (by omega)
            simp [Op.equalIn, un_run hu, e2]
          · cases h
        · cases h
      · cases h
    · rename_i hu
      split at h
      · split at h
        · cases dx; cases dy
          cases h
          simp [Op.equalIn, un_run hu]
        · cases h
      · cases h
    · rename_i hu
      split at h
      · rename_i p hx
        split at h
        · rename_i q hy
          have hx := symS_den hx dx
          have hy := symS_den hy dy
          subst hx
          subst hy
          have := eqB_eq h
          simp only [Op.equalIn, Sem.run_bind, un_run hu, Result.andThen_ok]
          rw [beq_toListBytes, tl, tl, this]
          rfl
        · cases h
      · cases h
    · rename_i fs hu
      split at h
      · rename_i hp
        split at h
        · split at h
          · obtain ⟨As, rfl, d1⟩ := dx.ofAgg
            obtain ⟨Bs, rfl, d2⟩ := dy.ofAgg
            have hu' : P.underlying t = some (.struct fs) := by
              have := un_run hu default
              have e3 : (underlying t).run P default = (match P.underlying t with | some d => .ok d default | none => (underlying t).run P default) := by
                cases hq : P.underlying t with
                | none => rfl
                | some d => exact run_underlying hq default
              rw [e3] at this
              cases hq : P.underlying t with
              | none =>
                rw [hq] at this
                simp only at this
                exfalso
                simp [underlying, hq] at this
              | some d =>
                rw [hq] at this
                simp only [Result.ok.injEq, and_true] at this
                rw [this]
            have hf : P.fieldsOf t = fs := by simp [Program.fieldsOf, hu']
            rw [run_equalIn_struct w d t As.toArray Bs.toArray (by rw [hf]; exact hu') hp, hf]
            exact eqF_run (fun t x y b X Y w h dx dy => eqD_run d t x y b X Y w h dx dy) d1 d2 h
          · cases h
        · cases h
      · cases h
    · cases h
end
end
end Go.Proofs.YtagbmfdheppmoaaGreatDoor.Vm

/-
  Operations whose operands are open; conversions of texts and bytes; maps.
-/
namespace Go.Proofs.YtagbmfdheppmoaaGreatDoor.Vm
set_option linter.unusedVariables false
set_option linter.unusedSimpArgs false
set_option linter.unusedSectionVars false
open Go.RowKit Go.Proofs.YtagbmfdheppmoaaGreatDoor.Sep
noncomputable section
variable [Vl]
section
variable {P : Program} {Fr : Nat → Prop} {W w : World} {ρ : Pl} {H : T} {n : Nat} {a : Act} {N : Nat} {E : En} {o : Oper}
/-! ### two operands -/
def flipE (op : BinOp) (b : Bool) : Option V := match op with | .eql => some (.bool b) | .neq => some (.bool (!b)) | _ => none
def binY (P : Program) (op : BinOp) (t : TypeId) (x y : V) : Option V := match symI x with
  | some (k, a) => (match symI y with | some (k', b) => binS op k k' a b | none => none)
  | none => (match symS x with
    | some p => (match symS y with | some q => strS op p q | none => none)
    | none => (match x with
      | .agg xs => (match y with
        | .agg ys => (match P.eqGuardType P.depth t with
          | false => (match eqD P 10000 t (.agg xs) (.agg ys) with | some b => flipE op b | none => none)
          | true => none)
        | _ => none)
      | _ => none))
theorem pur_binY (he : HE ρ a N E) {op : BinOp} {t u : TypeId} {x y : Operand} {v vx vy : V} (ho : o.op = .binOp op t x y u) (hx : evV E x = some vx) (hy : evV E y = some vy) (h : binY P op t vx vy = some v) : Pur P ρ a o v := by
  have dx := evV_den he hx
  have dy := evV_den he hy
  unfold binY at h
  split at h
  · rename_i k b hi
    have ex := symI_den hi dx
    split at h
    · rename_i k' c hj
      have ey := symI_den hj dy
      obtain ⟨r, h1, d⟩ := binS_run (P := P) (xt := t) (ρ := ρ) h
      exact pur_val (r := r) (fun w => by simp [execOp, ho, ex, ey, eqGuard, h1]) d
    · cases h
  · split at h
    · rename_i p hi
      have ex := symS_den hi dx
      split at h
      · rename_i q hj
        have ey := symS_den hj dy
        obtain ⟨r, h1, d⟩ := strS_run (P := P) (ρ := ρ) h
        exact pur_val (r := r) (fun w => by simp [execOp, ho, ex, ey, eqGuard, binOp, h1]) d
      · cases h
    · split at h
      · rename_i xs _ _
        split at h
        · rename_i ys _
          split at h
          · rename_i hm
            split at h
            · rename_i b hb
              obtain ⟨As, ex, d1⟩ := dx.ofAgg
              obtain ⟨Bs, ey, d2⟩ := dy.ofAgg
              have hr := fun w => eqD_run (ρ := ρ) 10000 t _ _ b (.agg As.toArray) (.agg Bs.toArray) w hb d1.agg d2.agg
              have hg := fun op w => run_eqGuard_agg (P := P) w op t x y As.toArray Bs.toArray hm
              unfold flipE at h
              split at h
              · cases h
                refine pur_val (r := .bool b) (fun w => ?_) (.bool _)
                simp [execOp, ho, ex, ey, hg, run_eql_struct, hr, Result.andThen]
              · cases h
                refine pur_val (r := .bool (!b)) (fun w => ?_) (.bool _)
                simp [execOp, ho, ex, ey, hg, run_neq_struct, hr, Result.andThen]
              · cases h
            · cases h
          · cases h
        · cases h
      · cases h
/-! ### one operand -/
def notC (c : Cn) : Cn := match c with | .pos a => .pos (afSub ⟨1, []⟩ a) | .zero a => .nzero a | .nzero a => .zero a
theorem notC_eval (c : Cn) : (notC c).eval = !c.eval := by
  cases c with
  | pos a =>
    show decide (0 < (afSub ⟨1, []⟩ a).eval) = !decide (0 < a.eval)
    rw [afSub_eval, lit_eval]
    by_cases h : 0 < a.eval
    · rw [decide_eq_true h, decide_eq_false (by omega)]; rfl
    · rw [decide_eq_false h, decide_eq_true (by omega)]; rfl
  | zero a => rfl
  | nzero a => show decide (a.eval = 0) = !(!decide (a.eval = 0)); simp
def convI (P : Program) (s d : TypeId) (v : V) : Option V := match unT P s with
  | some _ => (match unT P d with
    | some (.int k') => (match symI v with | some (_, a) => mkW k' (wrapA k' a) | none => none)
    | _ => none)
  | none => none
theorem un_eq {t : TypeId} {d : TypeDesc} (h : unT P t = some d) : P.underlying t = some d := by
  have := un_run h default
  cases hq : P.underlying t with
  | none => exfalso; simp [underlying, hq] at this
  | some d' => rw [run_underlying hq default] at this; simp only [Result.ok.injEq, and_true] at this; rw [this]
/-- No bytes as a text. -/
def noB (v : V) : Bool := match v with | .sle _ _ _ _ _ => true | .sl0 => true | _ => false
def conv0 (P : Program) (s d : TypeId) (v : V) : Option V := match noB v with
  | true => (match unT P d with
    | some .string => (match unT P s with
      | some (.slice e) => (match unT P e with
        | some (.int .u8) => some (.str [])
        | _ => none)
      | _ => none)
    | _ => none)
  | false => none
theorem pur_conv0 (he : HE ρ a N E) {s d : TypeId} {x : Operand} {v vx : V} (ho : o.op = .convert s d x) (hx : evV E x = some vx) (h : conv0 P s d vx = some v) : Pur P ρ a o v := by
  have dx := evV_den he hx
  unfold conv0 at h
  split at h
  · rename_i hn
    split at h
    · rename_i hud
      split at h
      · rename_i e hus
        split at h
        · rename_i hue
          cases h
          have key : ∀ w, (convert s d (a.eval x)).run P w = .ok (.string ⟨([] : List UInt8).toArray⟩) w := fun w => by
            generalize a.eval x = X at dx
            cases dx with
            | sle o' l' z' hg hz' hl' =>
              rw [run_convert_bytes_string w s d _ _ _ _ (un_eq hus) (un_eq hue) (un_eq hud), run_bytesToString w _ _ _ [] (by simp [loadCells, loadCellsFrom])]
              rfl
            | sl0 =>
              rw [run_convert_bytes_string w s d _ _ _ _ (un_eq hus) (un_eq hue) (un_eq hud)]
              simp [Conv.bytesToString]
              rfl
            | _ => cases hn
          exact pur_val (r := .string ⟨([] : List UInt8).toArray⟩) (fun w => by simp [execOp, ho, key]) (.str [])
        · cases h
      · cases h
    · cases h
  · cases h
def selB (l : List Af) (i : Nat) : Option V := match nth l i with | some a => (match inB a with | true => some (mkI .u8 a) | false => none) | none => none
/-- What an operation yields that looks at no memory, where its operands are open. -/
def opY (P : Program) (E : En) (o : Oper) : Option V := match o.op with
  | .binOp op t x y _ => (match evV E x with | some v => (match evV E y with | some w => binY P op t v w | none => none) | none => none)
  | .unOp u _ x => (match u with | .not => (match evV E x with | some (.bsym c) => some (cnV (notC c)) | _ => none) | _ => none)
  | .convert s d x => (match evV E x with | some v => (match convI P s d v with | some r => some r | none => conv0 P s d v) | none => none)
  | .index t x i => (match evV E x with
    | some (.ystr l) => (match natV (evV E i) with
      | some j => (match unT P t with | some .string => selB l j | _ => none)
      | none => none)
    | _ => none)
  | .slice t x lo hi none => (match evV E x with
    | some (.ystr l) => (match unT P t with
      | some .string => (match three E lo hi none (len l) (len l) with | some (p, q, _) => some (mkS (takeN (Nat.sub q p) (dropN p l))) | none => none)
      | _ => none)
    | _ => none)
  | .call c => (match c.callee with
    | .builtin b => (match c.args.toList with
      | [x] => (match c.argTypes.toList with
        | [t] => (match b with
          | .len => (match evV E x with
            | some (.ystr l) => (match unT P t with | some .string => some (.int .i64 (.ofNat (len l))) | _ => none)
            | _ => none)
          | _ => none)
        | _ => none)
      | [x, y] => (match evV E x with
        | some vx => (match evV E y with
          | some vy => (match symI vx with
            | some (k, p) => (match symI vy with
              | some (_, q) => (match b with
                | .max => (match decP (afSub q p) with | some t => some (mkI k (bif t then q else p)) | none => none)
                | .min => (match decP (afSub p q) with | some t => some (mkI k (bif t then q else p)) | none => none)
                | _ => none)
              | none => none)
            | none => none)
          | none => none)
        | none => none)
      | _ => none)
    | _ => none)
  | _ => none
theorem yB_size (l : List Af) : (yB l).size = l.length := by unfold yB; show (l.map Af.byte).toArray.size = _; simp
theorem opY_pur (he : HE ρ a N E) {v : V} (h : opY P E o = some v) : Pur P ρ a o v := by
  unfold opY at h
  split at h
  · rename_i op t x y u ho
    split at h
    · rename_i vx hx
      split at h
      · rename_i vy hy
        exact pur_binY he ho hx hy h
      · cases h
    · cases h
  · rename_i u t x ho
    split at h
    · split at h
      · rename_i c hx
        have ex : a.eval x = .bool c.eval := by have := evV_den he hx; generalize a.eval x = X at this; cases this; rfl
        cases h
        exact pur_val (r := .bool (!c.eval)) (fun w => by simp [execOp, ho, ex, Op.unary]) (by rw [← notC_eval]; exact cnV_den ρ _)
      · cases h
    · cases h
  · rename_i s d x ho
    split at h
    · rename_i vx hx
      split at h
      case h_2 => exact pur_conv0 he ho hx h
      case h_1 r0 hc0 =>
      cases h
      replace h := hc0
      unfold convI at h
      split at h
      · rename_i us hus
        split at h
        · rename_i k' hud
          split at h
          · rename_i k b hi
            have ex := symI_den hi (evV_den he hx)
            obtain ⟨c, h1, rfl⟩ := mkW_some h
            have := wrapA_eval h1
            refine pur_val (r := .int k' (k'.wrap b.eval)) (fun w => ?_) (by rw [← this]; exact mkI_den ρ k' c)
            simp [execOp, ho, ex, convert, un_run hus, un_run hud, Conv.intToInt]
          · cases h
        · cases h
      · cases h
    · cases h
  · rename_i t x i ho
    split at h
    · rename_i l hx
      have ex := symS_den (v := .ystr l) rfl (evV_den he hx)
      split at h
      · rename_i j hj
        obtain ⟨kd, hix⟩ := natV_den he hj
        split at h
        · rename_i hu
          unfold selB at h
          split at h
          · rename_i b hb
            split at h
            · rename_i hin
              cases h
              rw [nth_eq] at hb
              obtain ⟨h1, h2⟩ := List.getElem?_eq_some_iff.1 hb
              have h3 : j < (yB l).size := by rw [yB_size]; exact h1
              have h4 : (yB l)[j] = b.byte := by
                have h5 : j < (l.map Af.byte).length := by simpa using h1
                have h6 : (yB l)[j] = (l.map Af.byte)[j]'h5 := rfl
                exact h6.trans (by rw [List.getElem_map, h2])
              refine pur_val (r := .int .u8 b.eval) (fun w => ?_) (mkI_den ρ _ b)
              simp [execOp, ho, ex, hix, Instr.index, asIntOf, un_run hu, h3, h4]
              exact (inB_byte hin).1
            · cases h
          · cases h
        · cases h
      · cases h
    · cases h
  · rename_i t x lo hi ho
    split at h
    · rename_i l hx
      have ex := symS_den (v := .ystr l) rfl (evV_den he hx)
      split at h
      · rename_i hu
        split at h
        · rename_i p q m e3
          obtain ⟨b1, b2, b3, b4, b5, b6, b7⟩ := three_spec e3
          cases h
          have hm : len l = m := Option.some.inj b1
          subst hm
          have hb := fun w => bounds_run (P := P) (w := w) (sl := false) (ln := len l) (cap := len l) (mx := none) he rfl b2 b3 b4 b5 b6 b7
          refine pur_val (r := .string (yB ((l.drop p).take (q - p)))) (fun w => ?_) (by rw [takeN_eq, dropN_eq]; exact mkS_den ρ _)
          have ez : (yB l).size = len l := by rw [yB_size, len_eq]
          have ee : (yB l).extract p q = yB ((l.drop p).take (q - p)) := by
            apply ByteArray.ext
            unfold yB
            simp [List.extract_eq_take_drop, List.map_take, List.map_drop]
          simp only [Option.map_none] at hb
          simp [execOp, ho, Instr.sliceAt, Instr.slice, un_run hu, ex, ez, hb, ee]
        · cases h
      · cases h
    · cases h
  · rename_i c ho
    obtain ⟨cal, args, ts⟩ := c
    simp only at h
    split at h
    · rename_i b
      split at h
      · rename_i x ha
        split at h
        · rename_i t ht
          have e1 : args = #[x] := by apply Array.ext'; rw [ha]
          have e2 : ts = #[t] := by apply Array.ext'; rw [ht]
          subst e1
          subst e2
          split at h
          · split at h
            · rename_i l hx
              have ex := symS_den (v := .ystr l) rfl (evV_den he hx)
              split at h
              · rename_i hu
                cases h
                refine pur_val (r := .int .i64 ((len l : Nat) : Int)) (fun w => ?_) (.int ..)
                have ez : (yB l).size = len l := by rw [yB_size, len_eq]
                simp [execOp, ho, resolve, invoke, builtin, Builtin.len_, un_run hu, ex, ez, goInt]
              · cases h
            · cases h
          · cases h
        · cases h
      · rename_i x y ha
        have e1 : args = #[x, y] := by apply Array.ext'; rw [ha]
        subst e1
        split at h
        · rename_i vx hx
          split at h
          · rename_i vy hy
            split at h
            · rename_i k p hi
              have ex := symI_den hi (evV_den he hx)
              split at h
              · rename_i k' q hj
                have ey := symI_den hj (evV_den he hy)
                split at h
                · split at h
                  · rename_i t hd
                    cases h
                    have := decP_eq hd
                    rw [afSub_eval] at this
                    have e3 : (bif t then q else p).eval = if q.eval > p.eval then q.eval else p.eval := by
                      by_cases h0 : q.eval > p.eval
                      · rw [decide_eq_true (by omega)] at this; subst this; rw [if_pos h0]; rfl
                      · rw [decide_eq_false (by omega)] at this; subst this; rw [if_neg h0]; rfl
                    refine pur_val (r := .int k (bif t then q else p).eval) (fun w => ?_) (mkI_den ρ k _)
                    rw [e3]
                    simp [execOp, ho, resolve, invoke, builtin, Builtin.max_, Builtin.max2, ex, ey]
                  · cases h
                · split at h
                  · rename_i t hd
                    cases h
                    have := decP_eq hd
                    rw [afSub_eval] at this
                    have e3 : (bif t then q else p).eval = if q.eval < p.eval then q.eval else p.eval := by
                      by_cases h0 : q.eval < p.eval
                      · rw [decide_eq_true (by omega)] at this; subst this; rw [if_pos h0]; rfl
                      · rw [decide_eq_false (by omega)] at this; subst this; rw [if_neg h0]; rfl
                    refine pur_val (r := .int k (bif t then q else p).eval) (fun w => ?_) (mkI_den ρ k _)
                    rw [e3]
                    simp [execOp, ho, resolve, invoke, builtin, Builtin.min_, Builtin.min2, ex, ey]
                  · cases h
                · cases h
              · cases h
            · cases h
          · cases h
        · cases h
      · cases h
    · cases h
  · cases h
end
end
end Go.Proofs.YtagbmfdheppmoaaGreatDoor.Vm
