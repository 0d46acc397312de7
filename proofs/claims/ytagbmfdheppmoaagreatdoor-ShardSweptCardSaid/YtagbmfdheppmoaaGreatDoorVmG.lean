import Derived.Test.YtagbmfdheppmoaaGreatDoorVmV
import Derived.StillTail
/-
  Regions whose order is open, inside whatever frame: operations that yield the same in every world that meets S come first.
-/
namespace Go.Proofs.YtagbmfdheppmoaaGreatDoor.Vm
set_option linter.unusedVariables false
set_option linter.unusedSimpArgs false
set_option linter.unusedSectionVars false
open Go.RowKit Go.Proofs.YtagbmfdheppmoaaGreatDoor.Sep
noncomputable section
variable [Vl]
section
variable {P : Program} {ops : Array Oper} {Q : Exit → Act → World → Prop} {S : World → Prop} {ro : Option Nat} {m : Nat}
theorem yields_here {i : Nat} {o : Oper} {v : Value} {a : Act} (hi : ops[i]? = some o) (hnd : ∀ c, o.op ≠ .defer c) (hy : YieldsIf P ops S o v a) {K : Act → World → Prop} {w : World} (hS : S w) (h : K (a.put o.dst v) w) : wpOpIn (FW ro) m P ops Q i K a w := by
  unfold wpOpIn
  simp only [hi]
  rcases hy with ⟨hw, hv⟩ | ⟨hw, rfl⟩
  · rw [if_pos hw]
    refine ⟨fun f _ => trivial, ?_⟩
    rw [Oper.semAt_eq _ _ _ hnd, hv w hS]
    exact h
  · rw [if_neg (by rw [hw]; simp)]
    exact ⟨fun f _ => trivial, h⟩
/-- An operation that is apart from another one does the same, whether that one's value is there already or not; and the other one yields the same behind it. -/
theorem apart_here {j : Nat} {oi oj : Oper} {v : Value} (hj : ops[j]? = some oj) (hap : oi.apart ops oj = true) (hsi : ∀ cs b, oi.op ≠ .select cs b) (hsj : ∀ cs b, oj.op ≠ .select cs b) (hnd : ∀ c, oj.op ≠ .defer c)
    (hQ : ∀ e a w, Q e a w → e = .normal) {K : Act → World → Prop} {a : Act} {w : World} (hy : YieldsIf P ops S oi v a) (h : wpOpIn (FW ro) m P ops Q j K (a.put oi.dst v) w) :
    wpOpIn (FW ro) m P ops Q j (fun a' w' => YieldsIf P ops S oi v a' ∧ K (a'.put oi.dst v) w') a w := by
  obtain ⟨h1, h2, h3⟩ := Oper.apart_spec hap
  have stays : ∀ u, YieldsIf P ops S oi v (a.put oj.dst u) := fun u => hy.of_same (execOp_put oi hsi a oj.dst u h3) (wanted_put oi a oj.dst u h3)
  have move : ∀ {u w'}, K ((a.put oi.dst v).put oj.dst u) w' → YieldsIf P ops S oi v (a.put oj.dst u) ∧ K ((a.put oj.dst u).put oi.dst v) w' := fun {u w'} hk => ⟨stays u, by rw [← Act.put_comm a v u h2]; exact hk⟩
  have noP : ∀ {c a w}, Q (.panic c) a w → False := fun hq => by have := hQ _ _ _ hq; cases this
  have noL : LetsOut Q → False := fun ⟨_, _, hq⟩ => by have := hQ _ _ _ hq; cases this
  unfold wpOpIn at h ⊢
  simp only [hj] at h ⊢
  rw [wanted_put oj a oi.dst v h1] at h
  by_cases hw : Region.wanted oj (yielded ops a.tmps) = true
  · rw [if_pos hw] at h ⊢
    refine ⟨fun f _ => trivial, ?_⟩
    have h := h.2
    rw [Oper.semAt_eq _ _ _ hnd] at h ⊢
    rw [execOp_put oj hsj a oi.dst v h1] at h
    generalize (execOp a.eval oj).run P w = r at h
    match r, h with
    | .ok (.value u) w', h => exact move h
    | .ok .skip w', h => exact move h
    | .ok (.enter f args) w', h =>
      refine ⟨h.1, CallsIn.mono h.2 fun e w2 he => ?_⟩
      cases e with
      | returned u => exact move he
      | panicked c => exact (noP he).elim
      | outgrown => exact (noL he).elim
    | .ok (.row row args) w', h => exact ⟨h.1, RowsIn.mono h.2 fun u w2 he => move he⟩
    | .ok (.round l f tmps as_ body) w', h =>
      refine ⟨h.1, RoundIn.mono h.2 fun e w2 he => ?_⟩
      cases e with
      | returned u => exact move he
      | panicked c => exact (noP he).elim
      | outgrown => exact (noL he).elim
    | .ok (.defer d) w', h =>
      have ha : (a.put oi.dst v).defers = a.defers := put_defers ..
      refine ⟨hy.of_same (execOp_put oi hsi { a with defers := d :: a.defers } oj.dst undef h3) (wanted_put oi { a with defers := d :: a.defers } oj.dst undef h3), ?_⟩
      rw [← Act.put_comm _ v undef h2]
      have : ({ a with defers := d :: a.defers } : Act).put oi.dst v = { a.put oi.dst v with defers := d :: (a.put oi.dst v).defers } := by cases oi.dst <;> rfl
      rw [this]
      exact h
    | .halt (.panic u) w', h => exact (noP h).elim
  · rw [if_neg hw] at h ⊢
    exact ⟨fun f _ => trivial, move h.2⟩
/-! ### which operations come behind which -/
def Sat (ops : Array Oper) (listed : Array Bool) (j : Nat) : Prop := ∃ o, ops[j]? = some o ∧ ∀ e ∈ o.after, Region.binds .any e = true → listed.getD e.on false = true
def Closed (ops : Array Oper) (listed : Array Bool) : Prop := ∀ k, listed.getD k false = true → Sat ops listed k
def tb (m i : Nat) : Bool := Nat.beq (Nat.land (Nat.shiftRight m i) 1) 1
theorem tb_eq (m i : Nat) : tb m i = m.testBit i := by
  unfold tb
  rw [nbeq, Nat.testBit_eq_decide_div_mod_eq]
  show decide ((m >>> i) &&& 1 = 1) = _
  rw [Nat.shiftRight_eq_div_pow, Nat.and_one_is_mod]
def orAll {α : Type} (f : α → Nat) (l : List α) : Nat := List.rec 0 (fun x _ ih => Nat.lor (f x) ih) l
theorem orAll_bit {α : Type} {f : α → Nat} {i : Nat} : ∀ {l : List α}, (orAll f l).testBit i = true ↔ ∃ x ∈ l, (f x).testBit i = true
  | [] => by show Nat.testBit 0 i = true ↔ _; simp
  | x :: l => by
    show (f x ||| orAll f l).testBit i = true ↔ _
    rw [Nat.testBit_or, Bool.or_eq_true, orAll_bit (l := l)]
    simp
theorem bit_one (a i : Nat) : (Nat.shiftLeft 1 a).testBit i = decide (a = i) := by
  show (1 <<< a).testBit i = _
  rw [Nat.testBit_shiftLeft]
  by_cases h : a = i
  · subst h; simp
  · by_cases h2 : a ≤ i
    · have : Nat.testBit 1 (i - a) = false := Nat.testBit_lt_two_pow (Nat.one_lt_two_pow (by omega))
      simp [h, h2, this]
    · simp [h, h2]
def bitE (g : Nat → Nat) (e : Edge) : Nat := match Region.binds .any e with | true => Nat.lor (Nat.shiftLeft 1 e.on) (g e.on) | false => 0
theorem bitE_bit {g : Nat → Nat} {e : Edge} {i : Nat} : (bitE g e).testBit i = true ↔ Region.binds .any e = true ∧ (e.on = i ∨ (g e.on).testBit i = true) := by
  unfold bitE
  split
  · rename_i h
    show ((Nat.shiftLeft 1 e.on) ||| (g e.on)).testBit i = true ↔ _
    rw [Nat.testBit_or, Bool.or_eq_true, bit_one]
    simp [h]
  · rename_i h; simp [h]
/-- The operations that an operation waits for. -/
def anc (ops : List Oper) (f : Nat) : Nat → Nat := Nat.rec (motive := fun _ => Nat → Nat) (fun _ => 0) (fun _ ih j => match nth ops j with | some o => orAll (bitE ih) o.after.toList | none => 0) f
theorem anc_sound {listed : Array Bool} {i : Nat} (hc : Closed ops listed) : ∀ (f j : Nat), Sat ops listed j → (anc ops.toList f j).testBit i = true → listed.getD i false = true
  | 0, j, _, h => by have h : Nat.testBit 0 i = true := h; simp at h
  | f + 1, j, hs, h => by
    have e : anc ops.toList (f + 1) j = (match nth ops.toList j with | some o => orAll (bitE (anc ops.toList f)) o.after.toList | none => 0) := rfl
    obtain ⟨o, ho, hall⟩ := hs
    rw [e, nth_eq] at h
    have ho' : ops.toList[j]? = some o := by simpa using ho
    rw [ho'] at h
    simp only at h
    obtain ⟨x, hx, hb⟩ := orAll_bit.1 h
    obtain ⟨h1, h2⟩ := bitE_bit.1 hb
    have h3 := hall x (by simpa using hx) h1
    rcases h2 with h2 | h2
    · rw [← h2]; exact h3
    · exact anc_sound hc f x.on (hc _ h3) h2
theorem Closed.set {listed : Array Bool} {j : Nat} (hc : Closed ops listed) (hj : Sat ops listed j) : Closed ops (listed.setIfInBounds j true) := by
  have up : ∀ k, Sat ops listed k → Sat ops (listed.setIfInBounds j true) k := fun k ⟨o, h1, h2⟩ => ⟨o, h1, fun e he hb => getD_set_true (h2 e he hb)⟩
  intro k hk
  by_cases e : j = k
  · subst e; exact up j hj
  · rw [getD_set_ne false e] at hk; exact up k (hc k hk)
/-! ### orders -/
/-- What must stay: loads that were done early. -/
abbrev Pm := List (Nat × (World → Prop))
def Pres (ops : Array Oper) (M : Pm) (j : Nat) (w w' : World) : Prop := ∀ e ∈ M, (anc ops.toList 6 j).testBit e.1 = false → e.2 w → e.2 w'
/-- Whatever comes first of what is left. -/
def HT (P : Program) (ops : Array Oper) (Q : Exit → Act → World → Prop) (ro : Option Nat) (m : Nat) : Nat → Pm → Array Bool → Act → World → Prop
  | 0, _, listed, a, w => Region.ready .any ops listed = [] ∧ Q .normal a w
  | f + 1, M, listed, a, w => Region.ready .any ops listed ≠ [] ∧ ∀ i ∈ Region.ready .any ops listed, wpOpIn (FW ro) m P ops Q i (fun a' w' => Pres ops M i w w' ∧ HT P ops Q ro m f M (listed.setIfInBounds i true) a' w') a w
theorem HT.any : ∀ {f : Nat} {M : Pm} {listed : Array Bool} {a : Act} {w : World}, HT P ops Q ro m f M listed a w → wpAnyIn (FW ro) m P .any ops Q f listed a w
  | 0, _, _, _, _, h => h
  | _ + 1, _, _, _, _, h => ⟨fun h0 => absurd h0 h.1, fun i hi => wpOpIn_mono (fun _ _ h' => HT.any h'.2) (h.2 i hi)⟩
theorem HT.weaken {M M' : Pm} (hm : ∀ e ∈ M', e ∈ M) : ∀ {f : Nat} {listed : Array Bool} {a : Act} {w : World}, HT P ops Q ro m f M listed a w → HT P ops Q ro m f M' listed a w
  | 0, _, _, _, h => h
  | _ + 1, _, _, _, h => ⟨h.1, fun i hi => wpOpIn_mono (fun _ _ h' => ⟨fun e he => h'.1 e (hm e he), HT.weaken hm h'.2⟩) (h.2 i hi)⟩
theorem ready_sat {listed : Array Bool} {j : Nat} (h : j ∈ Region.ready .any ops listed) : Sat ops listed j := by
  obtain ⟨_, o, ho, hall⟩ := mem_ready.1 h
  exact ⟨o, ho, hall⟩
theorem HT.first {i : Nat} {oi : Oper} {v : Value} {S : World → Prop} (hi : ops[i]? = some oi) (hsel : ∀ (j : Nat) (o : Oper) cs b, ops[j]? = some o → o.op ≠ .select cs b) (hnd : ∀ (j : Nat) (o : Oper) c, ops[j]? = some o → o.op ≠ .defer c) (hQ : ∀ e a w, Q e a w → e = .normal) {M : Pm} :
    ∀ (f : Nat) (listed : Array Bool) (a : Act) (w : World), (∀ j oj, ops[j]? = some oj → j ≠ i → listed.getD j true = false → (∀ e ∈ oj.after, Region.binds .any e = true → e.on ≠ i) → oi.apart ops oj = true) → i ∈ Region.ready .any ops listed → Closed ops listed → YieldsIf P ops S oi v a → S w →
      HT P ops Q ro m f ((i, S) :: M) (listed.setIfInBounds i true) (a.put oi.dst v) w → HT P ops Q ro m (f + 1) M listed a w
  | f, listed, a, w, hfree, hr, hcl, hy, hS, H => by
    refine ⟨fun h => (by rw [h] at hr; cases hr), fun j hj => ?_⟩
    by_cases hji : j = i
    · subst hji; exact yields_here hi (hnd _ _ · hi) hy hS ⟨fun e _ _ h => h, HT.weaken (fun e he => by simp [he]) H⟩
    · match f, H with
      | 0, H =>
        have := ready_mono hj hji
        rw [H.1] at this
        cases this
      | f + 1, H =>
        obtain ⟨hjun, oj, hoj, hall⟩ := mem_ready.1 hj
        have hun := (mem_ready.1 hr).1
        have hnot : ∀ e ∈ oj.after, Region.binds .any e = true → e.on ≠ i := fun e he hb heq => by
          have h1 := hall e he hb
          rw [heq, getD_both hun] at h1
          cases h1
        have hanc : (anc ops.toList 6 j).testBit i = false := by
          cases hb : (anc ops.toList 6 j).testBit i with
          | false => rfl
          | true =>
            have := anc_sound hcl 6 j (ready_sat hj) hb
            rw [getD_both hun] at this
            cases this
        have h2 := apart_here hoj (hfree j oj hoj hji hjun hnot) (hsel i oi · · hi) (hsel j oj · · hoj) (hnd j oj · hoj) hQ hy (H.2 j (ready_mono hj hji))
        refine wpOpIn_mono (fun a' w' h3 => ⟨fun e he => h3.2.1 e (by simp [he]), HT.first hi hsel hnd hQ f (listed.setIfInBounds j true) a' w' (fun k ok hk hki hu hno => ?_) (ready_mono hr (Ne.symm hji)) (hcl.set (ready_sat hj)) h3.1 (h3.2.1 (i, S) (by simp) hanc hS) ?_⟩) h2
        · refine hfree k ok hk hki ?_ hno
          by_cases hjk : j = k
          · subst hjk; exact hjun
          · rwa [getD_set_ne true hjk] at hu
        · rw [Array.setIfInBounds_comm _ _ hji]; exact h3.2.2
end
end
end Go.Proofs.YtagbmfdheppmoaaGreatDoor.Vm
