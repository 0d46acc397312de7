import Derived.Test.YtagbmfdheppmoaaGreatDoorVmB
import Derived.Laws.StructEq
/-
  Numbers and texts that are open: sums, what is known of them, operations.
-/
namespace Go.Proofs.YtagbmfdheppmoaaGreatDoor.Vm
set_option linter.unusedVariables false
set_option linter.unusedSimpArgs false
set_option linter.unusedSectionVars false
open Go.RowKit Go.Proofs.YtagbmfdheppmoaaGreatDoor.Sep
noncomputable section
variable [Vl]
/-! ### sums -/
def ladd (a b : List Int) : List Int := List.rec (motive := fun _ => List Int → List Int) (fun b => b) (fun x _ ih b => List.rec (motive := fun _ => List Int) (x :: ih []) (fun y b _ => (x + y) :: ih b) b) a b
def lscale (k : Int) (l : List Int) : List Int := List.rec (motive := fun _ => List Int) [] (fun x _ ih => (k * x) :: ih) l
def lneg (l : List Int) : List Int := lscale (-1) l
def lzero (l : List Int) : Bool := List.rec (motive := fun _ => Bool) true (fun x _ ih => match ieq x 0 with | true => ih | false => false) l
def lmod (m : Int) (l : List Int) : Bool := List.rec (motive := fun _ => Bool) true (fun x _ ih => match ieq (x % m) 0 with | true => ih | false => false) l
theorem ieq_iff {a b : Int} : ieq a b = true ↔ a = b := by rw [ieq_eq]; simp
theorem ieq_no {a b : Int} : ieq a b = false ↔ a ≠ b := by rw [ieq_eq]; simp
theorem dot_nil (i : Nat) : dot [] i = 0 := rfl
theorem dot_cons (x : Int) (l : List Int) (i : Nat) : dot (x :: l) i = x * Vl.val i + dot l (i + 1) := rfl
theorem dot_add : ∀ (a b : List Int) (i : Nat), dot (ladd a b) i = dot a i + dot b i
  | [], b, i => by show dot b i = 0 + dot b i; omega
  | x :: a, [], i => by
    show dot (x :: ladd a []) i = _
    rw [dot_cons, dot_cons, dot_add a [] (i + 1), dot_nil, dot_nil]; omega
  | x :: a, y :: b, i => by
    show dot ((x + y) :: ladd a b) i = _
    rw [dot_cons, dot_cons, dot_cons, dot_add a b (i + 1), Int.add_mul]; omega
theorem dot_scale (k : Int) : ∀ (l : List Int) (i : Nat), dot (lscale k l) i = k * dot l i
  | [], i => by show (0 : Int) = k * 0; omega
  | x :: l, i => by
    show dot ((k * x) :: lscale k l) i = _
    rw [dot_cons, dot_cons, dot_scale k l (i + 1), Int.mul_add, Int.mul_assoc]
theorem dot_neg (l : List Int) (i : Nat) : dot (lneg l) i = - dot l i := by unfold lneg; rw [dot_scale]; omega
theorem dot_zero : ∀ {l : List Int} (i : Nat), lzero l = true → dot l i = 0
  | [], i, _ => rfl
  | x :: l, i, h => by
    have e : lzero (x :: l) = (match ieq x 0 with | true => lzero l | false => false) := rfl
    rw [e] at h
    split at h
    · rename_i h0; rw [dot_cons, dot_zero (i + 1) h, ieq_iff.1 h0]; omega
    · cases h
theorem dot_mod {m : Int} : ∀ {l : List Int} (i : Nat), lmod m l = true → ∃ z, dot l i = m * z
  | [], i, _ => ⟨0, by rw [dot_nil]; omega⟩
  | x :: l, i, h => by
    have e : lmod m (x :: l) = (match ieq (x % m) 0 with | true => lmod m l | false => false) := rfl
    rw [e] at h
    split at h
    · rename_i h0
      obtain ⟨z, hz⟩ := dot_mod (i + 1) h
      obtain ⟨y, hy⟩ := Int.dvd_of_emod_eq_zero (ieq_iff.1 h0)
      exact ⟨y * Vl.val i + z, by rw [dot_cons, hz, hy, Int.mul_add, Int.mul_assoc]⟩
    · cases h
def afAdd (a b : Af) : Af := ⟨a.c + b.c, ladd a.l b.l⟩
def afSub (a b : Af) : Af := ⟨a.c - b.c, ladd a.l (lneg b.l)⟩
def afNeg (a : Af) : Af := ⟨-a.c, lneg a.l⟩
def afMul (k : Int) (a : Af) : Af := ⟨k * a.c, lscale k a.l⟩
theorem afAdd_eval (a b : Af) : (afAdd a b).eval = a.eval + b.eval := by show a.c + b.c + dot (ladd a.l b.l) 0 = _; rw [dot_add]; unfold Af.eval; omega
theorem afSub_eval (a b : Af) : (afSub a b).eval = a.eval - b.eval := by show a.c - b.c + dot (ladd a.l (lneg b.l)) 0 = _; rw [dot_add, dot_neg]; unfold Af.eval; omega
theorem afNeg_eval (a : Af) : (afNeg a).eval = - a.eval := by show -a.c + dot (lneg a.l) 0 = _; rw [dot_neg]; unfold Af.eval; omega
theorem afMul_eval (k : Int) (a : Af) : (afMul k a).eval = k * a.eval := by show k * a.c + dot (lscale k a.l) 0 = _; rw [dot_scale]; unfold Af.eval; rw [Int.mul_add]
/-! ### what is known -/
def lEq (a b : List Int) : Bool := lzero (ladd a (lneg b))
theorem lEq_dot {a b : List Int} (h : lEq a b = true) (i : Nat) : dot a i = dot b i := by
  have := dot_zero i h
  rw [dot_add, dot_neg] at this
  omega
def imax (a b : Int) : Int := match ilt a b with | true => b | false => a
def factOf (l : List Int) (fs : List (List Int × Int)) : Option Int := List.rec (motive := fun _ => Option Int) none (fun p _ ih => match lEq p.1 l with
  | true => (match ih with | some b => some (imax p.2 b) | none => some p.2)
  | false => ih) fs
theorem factOf_le {l : List Int} {b : Int} : ∀ {fs : List (List Int × Int)}, (∀ p ∈ fs, p.2 ≤ dot p.1 0) → factOf l fs = some b → b ≤ dot l 0
  | [], _, h => by cases h
  | p :: fs, hf, h => by
    have e : factOf l (p :: fs) = (match lEq p.1 l with
      | true => (match factOf l fs with | some b => some (imax p.2 b) | none => some p.2)
      | false => factOf l fs) := rfl
    rw [e] at h
    have h1 := hf p (by simp)
    have h2 := fun q hq => hf q (List.mem_cons_of_mem p hq)
    split at h
    · rename_i he
      have h3 := lEq_dot he 0
      split at h
      · rename_i c hc
        have h4 := factOf_le h2 hc
        cases h
        unfold imax
        split <;> omega
      · cases h; omega
    · exact factOf_le h2 h
def unit_ (s : Int) (i : Nat) : List Int := Nat.rec (motive := fun _ => List Int) [s] (fun _ ih => 0 :: ih) i
theorem dot_unit (s : Int) : ∀ i j, dot (unit_ s i) j = s * Vl.val (j + i)
  | 0, j => by show dot [s] j = _; rw [dot_cons, dot_nil]; simp
  | i + 1, j => by
    show dot (0 :: unit_ s i) j = _
    rw [dot_cons, dot_unit s i (j + 1), show j + 1 + i = j + (i + 1) by omega]; omega
def lbU (l : List Int) : Nat → Option Int := List.rec (motive := fun _ => Nat → Option Int) (fun _ => some 0) (fun x _ ih i => match ih (Nat.add i 1) with
  | some b => (match ieq x 0 with
    | true => some b
    | false => (match ilt 0 x with
      | true => (match factOf (unit_ 1 i) Vl.facts with | some v => some (x * v + b) | none => none)
      | false => (match factOf (unit_ (-1) i) Vl.facts with | some v => some ((-x) * v + b) | none => none)))
  | none => none) l
theorem lbU_le : ∀ {l : List Int} {i : Nat} {b : Int}, lbU l i = some b → b ≤ dot l i
  | [], i, b, h => by have : (0 : Int) = b := Option.some.inj h; rw [dot_nil]; omega
  | x :: l, i, b, h => by
    have e : lbU (x :: l) i = (match lbU l (i + 1) with
      | some b => (match ieq x 0 with
        | true => some b
        | false => (match ilt 0 x with
          | true => (match factOf (unit_ 1 i) Vl.facts with | some v => some (x * v + b) | none => none)
          | false => (match factOf (unit_ (-1) i) Vl.facts with | some v => some ((-x) * v + b) | none => none)))
      | none => none) := rfl
    rw [e] at h
    rw [dot_cons]
    split at h
    · rename_i c hc
      have h1 := lbU_le hc
      split at h
      · rename_i h0; cases h; rw [ieq_iff.1 h0]; omega
      · split at h
        · rename_i hp
          rw [ilt_eq, decide_eq_true_iff] at hp
          split at h
          · rename_i v hv
            cases h
            have h2 := factOf_le Vl.holds hv
            rw [dot_unit] at h2
            have h3 : x * v ≤ x * Vl.val i := Int.mul_le_mul_of_nonneg_left (by simpa using h2) (by omega)
            omega
          · cases h
        · rename_i hp
          rw [ilt_eq, decide_eq_false_iff_not] at hp
          split at h
          · rename_i v hv
            cases h
            have h2 := factOf_le Vl.holds hv
            rw [dot_unit] at h2
            have h3 : (-x) * v ≤ (-x) * (-1 * Vl.val i) := Int.mul_le_mul_of_nonneg_left (by simpa using h2) (by omega)
            have h4 : (-x) * (-1 * Vl.val i) = x * Vl.val i := by rw [← Int.mul_assoc]; congr 1; omega
            omega
          · cases h
    · cases h
def lbd (l : List Int) : Option Int := match factOf l Vl.facts with
  | some b => (match lbU l 0 with | some c => some (imax b c) | none => some b)
  | none => lbU l 0
theorem lbd_le {l : List Int} {b : Int} (h : lbd l = some b) : b ≤ dot l 0 := by
  unfold lbd at h
  split at h
  · rename_i c hc
    have h1 := factOf_le Vl.holds hc
    split at h
    · rename_i d hd
      have h2 := lbU_le hd
      cases h
      unfold imax
      split
      · exact h2
      · exact h1
    · cases h; exact h1
  · exact lbU_le h
def lowA (a : Af) : Option Int := match lbd a.l with | some b => some (a.c + b) | none => none
def highA (a : Af) : Option Int := match lbd (lneg a.l) with | some b => some (a.c - b) | none => none
theorem lowA_le {a : Af} {b : Int} (h : lowA a = some b) : b ≤ a.eval := by
  unfold lowA at h
  split at h
  · rename_i c hc; have := lbd_le hc; cases h; unfold Af.eval; omega
  · cases h
theorem highA_le {a : Af} {b : Int} (h : highA a = some b) : a.eval ≤ b := by
  unfold highA at h
  split at h
  · rename_i c hc; have := lbd_le hc; rw [dot_neg] at this; cases h; unfold Af.eval; omega
  · cases h
def decP (a : Af) : Option Bool := match lowA a with
  | some b => (match ilt 0 b with
    | true => some true
    | false => (match highA a with | some c => (match ilt 0 c with | true => none | false => some false) | none => none))
  | none => (match highA a with | some c => (match ilt 0 c with | true => none | false => some false) | none => none)
theorem decP_eq {a : Af} {b : Bool} (h : decP a = some b) : decide (0 < a.eval) = b := by
  unfold decP at h
  have hi : (match highA a with | some c => (match ilt 0 c with | true => none | false => some false) | none => none) = some b → decide (0 < a.eval) = b := by
    intro h
    split at h
    · rename_i c hc
      have := highA_le hc
      split at h
      · cases h
      · rename_i h0
        rw [ilt_eq, decide_eq_false_iff_not] at h0
        cases h
        exact decide_eq_false (by omega)
    · cases h
  split at h
  · rename_i c hc
    have := lowA_le hc
    split at h
    · rename_i h0
      rw [ilt_eq, decide_eq_true_iff] at h0
      cases h
      exact decide_eq_true (by omega)
    · exact hi h
  · exact hi h
def decZ (a : Af) : Option Bool := match decP a with
  | some true => some false
  | some false => (match decP (afNeg a) with | some true => some false | some false => some true | none => none)
  | none => (match decP (afNeg a) with | some true => some false | _ => none)
theorem decZ_eq {a : Af} {b : Bool} (h : decZ a = some b) : decide (a.eval = 0) = b := by
  have n : ∀ {c}, decP (afNeg a) = some c → decide (0 < -a.eval) = c := fun h => by have := decP_eq h; rwa [afNeg_eval] at this
  unfold decZ at h
  split at h
  · rename_i h1
    have := decP_eq h1
    simp only [decide_eq_true_iff] at this
    cases h; exact decide_eq_false (by omega)
  · rename_i h1
    have := decP_eq h1
    simp only [decide_eq_false_iff_not] at this
    split at h
    · rename_i h2
      have := n h2
      simp only [decide_eq_true_iff] at this
      cases h; exact decide_eq_false (by omega)
    · rename_i h2
      have := n h2
      simp only [decide_eq_false_iff_not] at this
      cases h; exact decide_eq_true (by omega)
    · cases h
  · split at h
    · rename_i h2
      have := n h2
      simp only [decide_eq_true_iff] at this
      cases h; exact decide_eq_false (by omega)
    · cases h
def decC (c : Cn) : Option Bool := match c with
  | .pos a => decP a
  | .zero a => decZ a
  | .nzero a => (match decZ a with | some b => some (!b) | none => none)
theorem decC_eq {c : Cn} {b : Bool} (h : decC c = some b) : c.eval = b := by
  cases c with
  | pos a => exact decP_eq h
  | zero a => exact decZ_eq h
  | nzero a =>
    have h : (match decZ a with | some b => some (!b) | none => none) = some b := h
    split at h
    · rename_i c hc; have := decZ_eq hc; cases h; show (!decide (a.eval = 0)) = _; rw [this]
    · cases h
/-- What must be told of first. -/
def askC (c : Cn) : Af := match c with
  | .pos a => a
  | .zero a => (match decP a with | none => a | some _ => afNeg a)
  | .nzero a => (match decP a with | none => a | some _ => afNeg a)
def cnV (c : Cn) : V := match decC c with | some b => .bool b | none => .bsym c
theorem cnV_den (ρ : Pl) (c : Cn) : Den ρ (cnV c) (.bool c.eval) := by
  unfold cnV
  split
  · rename_i b h; rw [decC_eq h]; exact .bool b
  · exact .bsym c
/-! ### numbers -/
def mkI (k : IntKind) (a : Af) : V := match lzero a.l with | true => .int k a.c | false => .isym k a
theorem mkI_den (ρ : Pl) (k : IntKind) (a : Af) : Den ρ (mkI k a) (.int k a.eval) := by
  unfold mkI
  split
  · rename_i h
    have : a.eval = a.c := by unfold Af.eval; rw [dot_zero 0 h]; omega
    rw [this]; exact .int k _
  · exact .isym k a
def symI (v : V) : Option (IntKind × Af) := match v with | .int k n => some (k, ⟨n, []⟩) | .isym k a => some (k, a) | _ => none
theorem lit_eval (n : Int) : (⟨n, []⟩ : Af).eval = n := by show n + 0 = n; omega
theorem symI_den {ρ : Pl} {v : V} {k : IntKind} {a : Af} {x : Value} (h : symI v = some (k, a)) (d : Den ρ v x) : x = .int k a.eval := by
  unfold symI at h
  split at h
  · cases h; cases d; rw [lit_eval]
  · cases h; cases d; rfl
  · cases h
def kLow (k : IntKind) : Int := IntKind.rec (-128) (-32768) (-2147483648) (-9223372036854775808) 0 0 0 0 k
def kMod (k : IntKind) : Int := IntKind.rec 256 65536 4294967296 18446744073709551616 256 65536 4294967296 18446744073709551616 k
theorem wrap_k (k : IntKind) (n : Int) : k.wrap n = (n - kLow k) % kMod k + kLow k := by
  cases k
  · show IntKind.i8.wrap n = (n - (-128)) % 256 + (-128)
    simp [IntKind.wrap, IntKind.bits, IntKind.signed]; split <;> omega
  · show IntKind.i16.wrap n = (n - (-32768)) % 65536 + (-32768)
    simp [IntKind.wrap, IntKind.bits, IntKind.signed]; split <;> omega
  · show IntKind.i32.wrap n = (n - (-2147483648)) % 4294967296 + (-2147483648)
    rw [IntKind.wrap_i32]; omega
  · show IntKind.i64.wrap n = (n - (-9223372036854775808)) % 18446744073709551616 + (-9223372036854775808)
    rw [IntKind.wrap_i64]; omega
  · show IntKind.u8.wrap n = (n - 0) % 256 + 0
    rw [IntKind.wrap_u8]; omega
  · show IntKind.u16.wrap n = (n - 0) % 65536 + 0
    simp [IntKind.wrap, IntKind.bits, IntKind.signed]
  · show IntKind.u32.wrap n = (n - 0) % 4294967296 + 0
    rw [IntKind.wrap_u32]; omega
  · show IntKind.u64.wrap n = (n - 0) % 18446744073709551616 + 0
    rw [IntKind.wrap_u64]; omega
theorem kMod_pos (k : IntKind) : 0 < kMod k := by cases k <;> decide
def wrapA (k : IntKind) (a : Af) : Option Af := match lowA a with
  | some lo => (match highA a with
    | some hi => (match ieq ((lo - kLow k) / kMod k) ((hi - kLow k) / kMod k) with
      | true => some ⟨a.c - kMod k * ((lo - kLow k) / kMod k), a.l⟩
      | false => none)
    | none => none)
  | none => none
theorem ediv_mid {x lo hi m q : Int} (hm : 0 < m) (h1 : lo ≤ x) (h2 : x ≤ hi) (e1 : lo / m = q) (e2 : hi / m = q) : x / m = q := by
  have a1 := Int.ediv_le_ediv hm h1
  have a2 := Int.ediv_le_ediv hm h2
  omega
theorem wrapA_eval {k : IntKind} {a b : Af} (h : wrapA k a = some b) : b.eval = k.wrap a.eval := by
  unfold wrapA at h
  split at h
  · rename_i lo h1
    split at h
    · rename_i hi h2
      split at h
      · rename_i h3
        have h1 := lowA_le h1
        have h2 := highA_le h2
        have h3 := ieq_iff.1 h3
        cases h
        have hm := kMod_pos k
        have e := ediv_mid hm (x := a.eval - kLow k) (by omega) (by omega) rfl h3.symm
        rw [wrap_k]
        have := Int.mul_ediv_add_emod (a.eval - kLow k) (kMod k)
        rw [e] at this
        show a.c - kMod k * ((lo - kLow k) / kMod k) + dot a.l 0 = _
        have e2 : a.eval = a.c + dot a.l 0 := rfl
        omega
      · cases h
    · cases h
  · cases h
def inR (lo hi : Int) (a : Af) : Bool := match lowA a with
  | some x => (match highA a with | some y => (match ilt x lo with | true => false | false => !ilt hi y) | none => false)
  | none => false
theorem inR_spec {lo hi : Int} {a : Af} (h : inR lo hi a = true) : lo ≤ a.eval ∧ a.eval ≤ hi := by
  unfold inR at h
  split at h
  · rename_i x hx
    split at h
    · rename_i y hy
      have h1 := lowA_le hx
      have h2 := highA_le hy
      split at h
      · cases h
      · rename_i h3
        rw [ilt_eq, decide_eq_false_iff_not] at h3
        rw [ilt_eq] at h
        simp at h
        omega
    · cases h
  · cases h
def mkW (k : IntKind) (r : Option Af) : Option V := match r with | some a => some (mkI k a) | none => none
def litN (a : Af) : Option Nat := match lzero a.l with | true => (match a.c with | .ofNat n => some n | _ => none) | false => none
theorem litN_eval {a : Af} {n : Nat} (h : litN a = some n) : a.eval = n := by
  unfold litN at h
  split at h
  · rename_i h0
    split at h
    · rename_i m e
      cases h
      unfold Af.eval; rw [dot_zero 0 h0, e]; simp
    · cases h
  · cases h
def orA (a b : Af) : Option Af := match lmod 256 (a.c :: a.l) with
  | true => (match inR 0 4611686018427387904 a with
    | true => (match inR 0 255 b with | true => some (afAdd a b) | false => none)
    | false => none)
  | false => none
def or64 (k : IntKind) : Bool := IntKind.rec false false false true false false false true k
def binS (op : BinOp) (k k' : IntKind) (a b : Af) : Option V := match op with
  | .add => (match k == k' with | true => mkW k (wrapA k (afAdd a b)) | false => none)
  | .sub => (match k == k' with | true => mkW k (wrapA k (afSub a b)) | false => none)
  | .mul => (match k == k' with
    | true => (match lzero a.l with
      | true => mkW k (wrapA k (afMul a.c b))
      | false => (match lzero b.l with | true => mkW k (wrapA k (afMul b.c a)) | false => none))
    | false => none)
  | .shl => (match litN b with
    | some n => (match Nat.ble n 8 with | true => mkW k (wrapA k (afMul (2 ^ n) a)) | false => none)
    | none => none)
  | .shr => (match litN b with
    | some 0 => some (mkI k a)
    | some n => (match lowA a with
      | some lo => (match highA a with
        | some hi => (match ieq (lo / 2 ^ (Nat.min n k.bits)) (hi / 2 ^ (Nat.min n k.bits)) with | true => some (.int k (lo / 2 ^ (Nat.min n k.bits))) | false => none)
        | none => none)
      | none => none)
    | none => none)
  | .or => (match k == k' with
    | true => (match or64 k with
      | true => (match orA a b with | some c => mkW k (wrapA k c) | none => (match orA b a with | some c => mkW k (wrapA k c) | none => none))
      | false => none)
    | false => none)
  | .lss => (match k == k' with | true => some (cnV (.pos (afSub b a))) | false => none)
  | .gtr => (match k == k' with | true => some (cnV (.pos (afSub a b))) | false => none)
  | .leq => (match k == k' with | true => some (cnV (.pos (afAdd (afSub b a) ⟨1, []⟩))) | false => none)
  | .geq => (match k == k' with | true => some (cnV (.pos (afAdd (afSub a b) ⟨1, []⟩))) | false => none)
  | .eql => (match k == k' with | true => some (cnV (.zero (afSub a b))) | false => none)
  | .neq => (match k == k' with | true => some (cnV (.nzero (afSub a b))) | false => none)
  | _ => none
theorem beq_dec (x y : Int) : (x == y) = decide (x = y) := by by_cases h : x = y <;> simp [h]
theorem mkW_some {k : IntKind} {r : Option Af} {v : V} (h : mkW k r = some v) : ∃ a, r = some a ∧ v = mkI k a := by
  unfold mkW at h
  split at h
  · rename_i a; cases h; exact ⟨a, rfl, rfl⟩
  · cases h
theorem or_nat (x y : Int) (z : Int) (hx : x = 256 * z) (h0 : 0 ≤ x) (h1 : x ≤ 4611686018427387904) (h2 : 0 ≤ y) (h3 : y ≤ 255) :
    (((BitVec.ofInt 64 x ||| BitVec.ofInt 64 y).toNat : Nat) : Int) = x + y := by
  obtain ⟨a, rfl⟩ := Int.eq_ofNat_of_zero_le h0
  obtain ⟨b, rfl⟩ := Int.eq_ofNat_of_zero_le h2
  have ea : (BitVec.ofInt 64 (a : Int)).toNat = a := by rw [BitVec.toNat_ofInt]; omega
  have eb : (BitVec.ofInt 64 (b : Int)).toNat = b := by rw [BitVec.toNat_ofInt]; omega
  rw [BitVec.toNat_or, ea, eb]
  obtain ⟨m, rfl⟩ : ∃ m, a = 2 ^ 8 * m := ⟨z.toNat, by omega⟩
  rw [← Nat.two_pow_add_eq_or_of_lt (by omega) m]
  omega
theorem binS_run {P : Program} {op : BinOp} {xt : TypeId} {k k' : IntKind} {a b : Af} {v : V} {ρ : Pl} (h : binS op k k' a b = some v) : ∃ r, (∀ w, (binOp op xt (.int k a.eval) (.int k' b.eval)).run P w = .ok r w) ∧ Den ρ v r := by
  have ar : ∀ {c : Af} {X : Int}, c.eval = X → ∀ (r : Option Af), r = wrapA k c → mkW k r = some v → Den ρ v (.int k (k.wrap X)) := by
    intro c X hc r hr h
    subst hr
    obtain ⟨d, h1, rfl⟩ := mkW_some h
    rw [← hc, ← wrapA_eval h1]
    exact mkI_den ρ k d
  have cm : ∀ (c : Cn) (B : Bool), c.eval = B → some (cnV c) = some v → Den ρ v (.bool B) := by
    intro c B hc h
    cases h
    rw [← hc]; exact cnV_den ρ c
  have e1 : ∀ {c : Af}, (afAdd c ⟨1, []⟩).eval = c.eval + 1 := by intro c; rw [afAdd_eval, lit_eval]
  unfold binS at h
  split at h
  case h_4 => -- shl
    split at h
    · rename_i n hn
      split at h
      · rename_i hle
        have hle := Nat.le_of_ble_eq_true hle
        have hb : n ≤ k.bits := by cases k <;> exact Nat.le_trans hle (by decide)
        refine ⟨_, fun w => ?_, ar (afMul_eval _ a) _ rfl h⟩
        rw [litN_eval hn]
        have hn0 : ¬ ((n : Int) < 0) := by omega
        simp [binOp, Op.shift, hn0, Int.mul_comm, Nat.min_eq_left hb]
      · cases h
    · cases h
  case h_5 => -- shr
    split at h
    · rename_i hn
      cases h
      refine ⟨.int k a.eval, fun w => ?_, mkI_den ρ k a⟩
      rw [litN_eval hn]
      simp [binOp, Op.shift]
    · rename_i n hn0 hn
      split at h
      · rename_i lo hlo
        split at h
        · rename_i hi hhi
          split at h
          · rename_i he
            cases h
            have h1 := lowA_le hlo
            have h2 := highA_le hhi
            have hp : (0 : Int) < 2 ^ (min n k.bits) := Int.pow_pos (by decide)
            have e := ediv_mid hp h1 h2 rfl (ieq_iff.1 he).symm
            refine ⟨.int k (a.eval.fdiv (2 ^ (min n k.bits))), fun w => ?_, ?_⟩
            · rw [litN_eval hn]
              have hn0 : ¬ ((n : Int) < 0) := by omega
              simp [binOp, Op.shift, hn0]
            · rw [Int.fdiv_eq_ediv_of_nonneg _ (by omega), e]
              exact .int k _
          · cases h
        · cases h
      · cases h
    · cases h
  case h_6 => -- or
    split at h
    · rename_i hk
      have hk : k = k' := by simpa using hk
      subst hk
      split at h
      · rename_i h64
        have main : ∀ {x y : Af} {c : Af}, orA x y = some c → ((BitVec.ofInt k.bits x.eval ||| BitVec.ofInt k.bits y.eval).toNat : Int) = c.eval := by
          intro x y c hc
          unfold orA at hc
          split at hc
          · rename_i g1
            split at hc
            · rename_i g2
              split at hc
              · rename_i g3
                cases hc
                have g2 := inR_spec g2
                have g3 := inR_spec g3
                obtain ⟨z, hz⟩ : ∃ z, x.eval = 256 * z := by
                  have e : lmod 256 (x.c :: x.l) = (match ieq (x.c % 256) 0 with | true => lmod 256 x.l | false => false) := rfl
                  rw [e] at g1
                  split at g1
                  · rename_i g4
                    obtain ⟨z, hz⟩ := dot_mod 0 g1
                    obtain ⟨y, hy⟩ := Int.dvd_of_emod_eq_zero (ieq_iff.1 g4)
                    exact ⟨y + z, by unfold Af.eval; rw [hz, hy, Int.mul_add]⟩
                  · cases g1
                rw [afAdd_eval]
                have hb : k.bits = 64 := by cases k <;> first | rfl | (exact absurd h64 (by decide))
                have := or_nat x.eval y.eval z hz g2.1 g2.2 g3.1 g3.2
                rw [hb]; exact this
              · cases hc
            · cases hc
          · cases hc
        split at h
        · rename_i c hc
          refine ⟨_, fun w => ?_, ar (main hc).symm _ rfl h⟩
          simp [binOp, Op.intBits]
        · split at h
          · rename_i c hc
            refine ⟨_, fun w => ?_, ar (main hc).symm _ rfl h⟩
            rw [BitVec.or_comm]
            simp [binOp, Op.intBits]
          · cases h
      · cases h
    · cases h
  case h_3 => -- mul
    split at h
    · rename_i hk
      have hk : k = k' := by simpa using hk
      subst hk
      split at h
      · rename_i hz
        refine ⟨_, fun w => ?_, ar (afMul_eval _ b) _ rfl h⟩
        have : a.eval = a.c := by unfold Af.eval; rw [dot_zero 0 hz]; omega
        rw [this]; simp [binOp, Op.intArith]
      · split at h
        · rename_i hz
          refine ⟨_, fun w => ?_, ar (afMul_eval _ a) _ rfl h⟩
          have : b.eval = b.c := by unfold Af.eval; rw [dot_zero 0 hz]; omega
          rw [this, Int.mul_comm]; simp [binOp, Op.intArith]
        · cases h
    · cases h
  case h_13 => cases h
  all_goals
    split at h
    · rename_i hk
      have hk : k = k' := by simpa using hk
      subst hk
      first
        | (refine ⟨_, fun w => ?_, ar (afAdd_eval a b) _ rfl h⟩; simp [binOp, Op.intArith]; done)
        | (refine ⟨_, fun w => ?_, ar (afSub_eval a b) _ rfl h⟩; simp [binOp, Op.intArith]; done)
        | (refine ⟨.bool (decide (a.eval < b.eval)), fun w => ?_, cm _ _ ?_ h⟩
           · simp [binOp, Op.intCmp]; done
           · show decide (0 < (afSub b a).eval) = _
             rw [afSub_eval]; exact decide_eq_decide.2 (by omega))
        | (refine ⟨.bool (decide (a.eval > b.eval)), fun w => ?_, cm _ _ ?_ h⟩
           · simp [binOp, Op.intCmp]; done
           · show decide (0 < (afSub a b).eval) = _
             rw [afSub_eval]; exact decide_eq_decide.2 (by omega))
        | (refine ⟨.bool (decide (a.eval ≤ b.eval)), fun w => ?_, cm _ _ ?_ h⟩
           · simp [binOp, Op.intCmp]; done
           · show decide (0 < (afAdd (afSub b a) ⟨1, []⟩).eval) = _
             rw [e1, afSub_eval]; exact decide_eq_decide.2 (by omega))
        | (refine ⟨.bool (decide (a.eval ≥ b.eval)), fun w => ?_, cm _ _ ?_ h⟩
           · simp [binOp, Op.intCmp]; done
           · show decide (0 < (afAdd (afSub a b) ⟨1, []⟩).eval) = _
             rw [e1, afSub_eval]; exact decide_eq_decide.2 (by omega))
        | (refine ⟨.bool (a.eval == b.eval), fun w => ?_, cm _ _ ?_ h⟩
           · simp only [binOp, ne_eq, not_true_eq_false, if_false, Op.intCmp]; rfl
           · show decide ((afSub a b).eval = 0) = _
             rw [afSub_eval, beq_dec]; exact decide_eq_decide.2 (by omega))
        | (refine ⟨.bool (!(a.eval == b.eval)), fun w => ?_, cm _ _ ?_ h⟩
           · simp only [binOp, ne_eq, not_true_eq_false, if_false, Op.intCmp]; rfl
           · show (!decide ((afSub a b).eval = 0)) = _
             rw [afSub_eval, beq_dec]; congr 1; exact decide_eq_decide.2 (by omega))
    · cases h
end
end Go.Proofs.YtagbmfdheppmoaaGreatDoor.Vm
