import Derived.Test.YtagbmfdheppmoaaGreatDoorSepU
import Derived.OrdersIn
/-
  Statements whose order is open, in whatever frame.
-/
namespace Go.Proofs.YtagbmfdheppmoaaGreatDoor.Sep.J
open Go.RowKit
set_option linter.unusedVariables false
section
variable {P : Program} {ops : Array Oper} {Q : Exit → Act → World → Prop} {md : Region.Mode} {S : World → Prop} {ro : Option Nat} {m : Nat}
theorem yields_here {i : Nat} {o : Oper} {v : Value} {a : Act} (hi : ops[i]? = some o) (hnd : ∀ c, o.op ≠ .defer c) (hy : YieldsIf P ops S o v a) {K : Act → World → Prop} {w : World} (hS : S w) (h : K (a.put o.dst v) w) : wpOpIn (FW ro) m P ops Q i K a w := by
  unfold wpOpIn
  simp only [hi]
  rcases hy with ⟨hw, hv⟩ | ⟨hw, rfl⟩
  · rw [if_pos hw]
    refine ⟨fun f _ => trivial, ?_⟩
    rw [Oper.semAt_eq _ _ _ hnd, hv w hS]
    exact h
  · rw [if_neg (by rw [hw]; simp)]
    exact ⟨fun f _ => trivial, h⟩
/-- An operation that is apart from another one does the same, whether that one's value is there already or not; and the other one yields the same behind it. -/
theorem apart_here {j : Nat} {oi oj : Oper} {v : Value} (hj : ops[j]? = some oj) (hap : oi.apart ops oj = true) (hsi : ∀ cs b, oi.op ≠ .select cs b) (hsj : ∀ cs b, oj.op ≠ .select cs b) (hnd : ∀ c, oj.op ≠ .defer c)
    (hQ : ∀ e a w, Q e a w → e = .normal) {K : Act → World → Prop} {a : Act} {w : World} (hy : YieldsIf P ops S oi v a) (h : wpOpIn (FW ro) m P ops Q j K (a.put oi.dst v) w) :
    wpOpIn (FW ro) m P ops Q j (fun a' w' => YieldsIf P ops S oi v a' ∧ K (a'.put oi.dst v) w') a w := by
  obtain ⟨h1, h2, h3⟩ := Oper.apart_spec hap
  have stays : ∀ u, YieldsIf P ops S oi v (a.put oj.dst u) := fun u => hy.of_same (execOp_put oi hsi a oj.dst u h3) (wanted_put oi a oj.dst u h3)
  have move : ∀ {u w'}, K ((a.put oi.dst v).put oj.dst u) w' → YieldsIf P ops S oi v (a.put oj.dst u) ∧ K ((a.put oj.dst u).put oi.dst v) w' := fun {u w'} hk => ⟨stays u, by rw [← Act.put_comm a v u h2]; exact hk⟩
  have noP : ∀ {c a w}, Q (.panic c) a w → False := fun hq => by have := hQ _ _ _ hq; cases this
  have noL : LetsOut Q → False := fun ⟨_, _, hq⟩ => by have := hQ _ _ _ hq; cases this
  unfold wpOpIn at h ⊢
  simp only [hj] at h ⊢
  rw [wanted_put oj a oi.dst v h1] at h
  by_cases hw : Region.wanted oj (yielded ops a.tmps) = true
  · rw [if_pos hw] at h ⊢
    refine ⟨fun f _ => trivial, ?_⟩
    have h := h.2
    rw [Oper.semAt_eq _ _ _ hnd] at h ⊢
    rw [execOp_put oj hsj a oi.dst v h1] at h
    generalize (execOp a.eval oj).run P w = r at h
    match r, h with
    | .ok (.value u) w', h => exact move h
    | .ok .skip w', h => exact move h
    | .ok (.enter f args) w', h =>
      refine ⟨h.1, CallsIn.mono h.2 fun e w2 he => ?_⟩
      cases e with
      | returned u => exact move he
      | panicked c => exact (noP he).elim
      | outgrown => exact (noL he).elim
    | .ok (.row row args) w', h => exact ⟨h.1, RowsIn.mono h.2 fun u w2 he => move he⟩
    | .ok (.round l f tmps as_ body) w', h =>
      refine ⟨h.1, RoundIn.mono h.2 fun e w2 he => ?_⟩
      cases e with
      | returned u => exact move he
      | panicked c => exact (noP he).elim
      | outgrown => exact (noL he).elim
    | .ok (.defer d) w', h =>
      have ha : (a.put oi.dst v).defers = a.defers := J.put_defers ..
      refine ⟨hy.of_same (execOp_put oi hsi { a with defers := d :: a.defers } oj.dst undef h3) (wanted_put oi { a with defers := d :: a.defers } oj.dst undef h3), ?_⟩
      rw [← Act.put_comm _ v undef h2]
      have : ({ a with defers := d :: a.defers } : Act).put oi.dst v = { a.put oi.dst v with defers := d :: (a.put oi.dst v).defers } := by cases oi.dst <;> rfl
      rw [this]
      exact h
    | .halt (.panic u) w', h => exact (noP h).elim
  · rw [if_neg hw] at h ⊢
    exact ⟨fun f _ => trivial, move h.2⟩
def wpHT (ro : Option Nat) (m : Nat) (P : Program) (md : Region.Mode) (ops : Array Oper) (Q : Exit → Act → World → Prop) (S : World → Prop) (n : Nat) (L : Array Bool → Act → World → Prop) : Nat → Array Bool → Act → World → Prop
  | 0, listed, a, w => L listed a w
  | f + 1, listed, a, w => Region.ready md ops listed ≠ [] ∧ ∀ i ∈ Region.ready md ops listed, i < n ∧ wpOpIn (FW ro) m P ops Q i (fun a' w' => S w' ∧ wpHT ro m P md ops Q S n L f (listed.setIfInBounds i true) a' w') a w

theorem wpAny_of_ht {n g : Nat} {L : Array Bool → Act → World → Prop} (hL : ∀ listed a w, L listed a w → wpAnyIn (FW ro) m P md ops Q g listed a w) :
    ∀ (f : Nat) (listed : Array Bool) (a : Act) (w : World), wpHT ro m P md ops Q S n L f listed a w → wpAnyIn (FW ro) m P md ops Q (f + g) listed a w
  | 0, listed, a, w, h => by rw [Nat.zero_add]; exact hL _ _ _ h
  | f + 1, listed, a, w, h => by
    rw [show f + 1 + g = (f + g) + 1 by omega]
    exact ⟨fun h0 => absurd h0 h.1, fun i hi => wpOpIn_mono (fun a' w' h' => wpAny_of_ht hL f _ a' w' h'.2) (h.2 i hi).2⟩

theorem wpHT_first {n i : Nat} {oi : Oper} {v : Value} {L : Array Bool → Act → World → Prop} (hi : ops[i]? = some oi) (hsel : ∀ (j : Nat) (o : Oper) cs b, ops[j]? = some o → o.op ≠ .select cs b)
    (hnd : ∀ (j : Nat) (o : Oper) c, ops[j]? = some o → o.op ≠ .defer c) (hQ : ∀ e a w, Q e a w → e = .normal)
    (hs : Region.sinkB md ops n = true) (hc : Region.chainB md ops n = true) (hn : n < ops.size) (hin : i < n)
    (hdone : ∀ listed a w, L listed a w → ∀ j ∈ Region.ready md ops listed, n ≤ j) :
    ∀ (f : Nat) (listed : Array Bool) (a : Act) (w : World), HeadInv md ops n listed →
      (∀ j oj, ops[j]? = some oj → j ≠ i → listed.getD j true = false → (∀ e ∈ oj.after, Region.binds md e = true → e.on ≠ i) → oi.apart ops oj = true) →
      i ∈ Region.ready md ops listed → YieldsIf P ops S oi v a → S w →
      wpHT ro m P md ops Q S n L f (listed.setIfInBounds i true) (a.put oi.dst v) w → wpHT ro m P md ops Q S n L (f + 1) listed a w := by
  intro f
  induction f with
  | zero =>
    intro listed a w inv _ hr hy hS H
    have hun := (mem_ready.1 hr).1
    refine ⟨fun h => (by rw [h] at hr; cases hr), fun j hj => ?_⟩
    have hjn : j < n := by
      rcases Nat.lt_or_ge j n with h | h
      · exact h
      · exact absurd hj (tail_waits hs hc hn inv _ i rfl hin hun j h)
    refine ⟨hjn, ?_⟩
    by_cases hji : j = i
    · subst hji; exact yields_here hi (fun c => hnd _ oi c hi) hy hS ⟨hS, H⟩
    · have := hdone _ _ _ H j (ready_mono hj hji)
      omega
  | succ f ih =>
    intro listed a w inv hfree hr hy hS H
    have hun := (mem_ready.1 hr).1
    refine ⟨fun h => (by rw [h] at hr; cases hr), fun j hj => ?_⟩
    have hjn : j < n := by
      rcases Nat.lt_or_ge j n with h | h
      · exact h
      · exact absurd hj (tail_waits hs hc hn inv _ i rfl hin hun j h)
    refine ⟨hjn, ?_⟩
    by_cases hji : j = i
    · subst hji; exact yields_here hi (fun c => hnd _ oi c hi) hy hS ⟨hS, H⟩
    · have h1 := (H.2 j (ready_mono hj hji)).2
      obtain ⟨hjun, oj, hoj, hall⟩ := mem_ready.1 hj
      have hnot : ∀ e ∈ oj.after, Region.binds md e = true → e.on ≠ i := fun e he hb heq => by
        have h1 := hall e he hb
        rw [heq, getD_both hun] at h1
        cases h1
      have h2 := apart_here hoj (hfree j oj hoj hji hjun hnot) (fun cs b => hsel i oi cs b hi) (fun cs b => hsel j oj cs b hoj) (fun c => hnd j oj c hoj) hQ hy h1
      have hfree' : ∀ k ok, ops[k]? = some ok → k ≠ i → (listed.setIfInBounds j true).getD k true = false →
          (∀ e ∈ ok.after, Region.binds md e = true → e.on ≠ i) → oi.apart ops ok = true := fun k ok hk hki hun hno => by
        refine hfree k ok hk hki ?_ hno
        by_cases hjk : j = k
        · subst hjk; exact hjun
        · rw [getD_set_ne true hjk] at hun; exact hun
      refine wpOpIn_mono (fun a' w' h3 => ⟨h3.2.1, ih (listed.setIfInBounds j true) a' w' (inv.set hj hjn) hfree' (ready_mono hr (Ne.symm hji)) h3.1 h3.2.1 ?_⟩) h2
      rw [Array.setIfInBounds_comm _ _ hji]
      exact h3.2.2


theorem wpAny_of_seq {Q' : Exit → Act → World → Prop} : ∀ (l : List Oper) (k : Nat) (listed : Array Bool) (a : Act) (w : World), (∀ j, l[j]? = ops[k + j]?) →
    Region.seqB md ops l.length k listed = true → wpListIn (FW ro) m P ops Q' l a w → wpAnyIn (FW ro) m P md ops Q' l.length listed a w
  | [], _, _, _, _, _, hB, h => ⟨by simpa [Region.seqB] using hB, h⟩
  | o :: l, k, listed, a, w, hl, hB, h => by
    have h0 : ops[k]? = some o := by simpa using (hl 0).symm
    simp only [List.length_cons, Region.seqB, Bool.and_eq_true, decide_eq_true_eq] at hB
    refine ⟨fun h1 => (by rw [hB.1] at h1; cases h1), fun i hi => ?_⟩
    rw [hB.1] at hi
    have hik : i = k := by simpa using hi
    subst hik
    have hw : wpOpIn (FW ro) m P ops Q' i (wpListIn (FW ro) m P ops Q' l) a w := by unfold wpOpIn; simp only [h0]; exact h
    exact wpOpIn_mono (fun a' w' h' => wpAny_of_seq l (i + 1) _ a' w' (fun j => by have := hl (j + 1); simpa [Nat.add_assoc, Nat.add_comm 1 j] using this) hB.2 h') hw
/-- Only a normal end. -/
def Nm (Q : Exit → Act → World → Prop) : Exit → Act → World → Prop := fun e a w => e = .normal ∧ Q .normal a w
structure Head (ro : Option Nat) (m : Nat) (P : Program) (ops : Array Oper) (Q : Exit → Act → World → Prop) (S : World → Prop) (n : Nat) (g f : Nat) (listed : Array Bool) (a : Act) (w : World) : Prop where
  run : HeadInv .any ops n listed → wpHT ro m P .any ops (Nm Q) S n (fun listed' a' w' => Region.seqB .any ops g n listed' = true ∧ wpListIn (FW ro) m P ops (Nm Q) (ops.toList.drop n) a' w') f listed a w
def noDef (ops : Array Oper) : Bool := ops.toList.all fun o => match o.op with | .defer _ => false | _ => true
theorem noDef_spec (h : noDef ops = true) : ∀ (j : Nat) (o : Oper) c, ops[j]? = some o → o.op ≠ .defer c := fun j o c hj e => by
  have hm : o ∈ ops.toList := by
    have : ops.toList[j]? = some o := by simpa using hj
    exact List.mem_of_getElem? this
  have := List.all_eq_true.1 h o hm
  rw [e] at this
  cases this
theorem Head.take {n g f i : Nat} {oi : Oper} {v : Value} {listed : Array Bool} {a : Act} {w : World} (hi : ops[i]? = some oi)
    (hB : (noDef ops && (Region.noSelect ops && decide (n < ops.size) && Region.sinkB .any ops n && Region.chainB .any ops n && decide (i < n) && Region.free .any ops listed i && (Region.ready .any ops listed).contains i)) = true)
    (hy : YieldsIf P ops S oi v a) (hS : S w)
    (h : Head ro m P ops Q S n g f (listed.setIfInBounds i true) (a.put oi.dst v) w) : Head ro m P ops Q S n g (f + 1) listed a w := by
  simp only [Bool.and_eq_true, decide_eq_true_eq] at hB
  obtain ⟨hnd, ⟨⟨⟨⟨⟨hsel, hn⟩, hs⟩, hc⟩, hin⟩, hf⟩, hr⟩ := hB
  have hr' : i ∈ Region.ready .any ops listed := by simpa using hr
  exact ⟨fun inv => wpHT_first hi (Region.noSelect_spec hsel) (noDef_spec hnd) (fun e a w h => h.1) hs hc hn hin (fun listed' a' w' hL => seqB_ready hL.1) f listed a w inv (Region.free_spec hi hf) hr' hy hS (h.run (inv.set hr' hin))⟩
theorem Head.done {n g : Nat} {listed : Array Bool} {a : Act} {w : World} (hB : Region.seqB .any ops g n listed = true) (h : wpListIn (FW ro) m P ops (Nm Q) (ops.toList.drop n) a w) : Head ro m P ops Q S n g 0 listed a w :=
  ⟨fun _ => ⟨hB, h⟩⟩
theorem wp_region_head {id : Nat} {a : Act} {w : World} {l : List Oper} (n : Nat) (S : World → Prop) (hm : P.follows .mixedOrders = true) (hn : n ≤ l.length)
    (h : Head ro m P l.toArray Q S n (l.length - n) n (Array.replicate l.length false) a w.drew) : (Code.region id l.toArray true).wpIn (FW ro) m P Q a w := by
  refine wpIn_mono (Q := Nm Q) (wpIn_region_any hm ?_) (fun e a w h => h.1 ▸ h.2)
  have inv0 : HeadInv .any l.toArray n (Array.replicate l.toArray.size false) :=
    ⟨by simp, fun j oj _ hl => (by rw [getD_replicate_false] at hl; cases hl), fun t _ ht => getD_in (by simpa using ht) (getD_replicate_false _ _)⟩
  have H := h.run (by simpa using inv0)
  have := wpAny_of_ht (ro := ro) (m := m) (Q := Nm Q) (g := l.length - n) (fun listed a' w' hL => by
    have := wpAny_of_seq (ro := ro) (m := m) (md := .any) (ops := l.toArray) (Q' := Nm Q) (l.drop n) n listed a' w' (fun j => by simp [List.getElem?_drop]) (by rw [List.length_drop]; exact hL.1) hL.2
    rwa [List.length_drop] at this) _ _ _ _ H
  rw [show n + (l.length - n) = l.length by omega] at this
  simpa using this
section
variable {a : Act} {w : World} {o : Oper} {N : Nat} {E : Env} {ds : List Deferred}
theorem hd_val {n g f i : Nat} {listed : Array Bool} (v : Value) (ha : Has ds a N E) (hi : ops[i]? = some o)
    (hR : (noDef ops && (Region.noSelect ops && decide (n < ops.size) && Region.sinkB .any ops n && Region.chainB .any ops n && decide (i < n) && Region.free .any ops listed i && (Region.ready .any ops listed).contains i)) = true)
    (_hQ : Unit → Unit → Unit → True → True) (hB : (covers E o N && (wants E ops o == some true)) = true) (hr : ∀ w, S w → (execOp (evalE E) o).run P w = .ok (.value v) w) (hS : S w)
    (h : ∀ a, Has ds a N (putE E o.dst v) → Head ro m P ops Q S n g f (listed.setIfInBounds i true) a w) : Head ro m P ops Q S n g (f + 1) listed a w := by
  simp only [Bool.and_eq_true, beq_iff_eq] at hB
  exact Head.take hi hR (.inl ⟨wants_eq ha hB.2, fun w hw => by rw [covers_eval ha hB.1]; exact hr w hw⟩) hS (h _ (ha.put _ _ (covers_dst hB.1)))
theorem hd_pass {n g f i : Nat} {listed : Array Bool} (ha : Has ds a N E) (hi : ops[i]? = some o)
    (hR : (noDef ops && (Region.noSelect ops && decide (n < ops.size) && Region.sinkB .any ops n && Region.chainB .any ops n && decide (i < n) && Region.free .any ops listed i && (Region.ready .any ops listed).contains i)) = true)
    (_hQ : Unit → Unit → Unit → True → True) (hB : (covers E { o with op := .alloc 0 } N && (wants E ops o == some false)) = true) (hS : S w)
    (h : ∀ a, Has ds a N (putE E o.dst undef) → Head ro m P ops Q S n g f (listed.setIfInBounds i true) a w) : Head ro m P ops Q S n g (f + 1) listed a w := by
  simp only [Bool.and_eq_true, beq_iff_eq] at hB
  exact Head.take hi hR (.inr ⟨wants_eq ha hB.2, rfl⟩) hS (h _ (ha.put _ _ (covers_dst (o := { o with op := .alloc 0 }) hB.1)))
theorem Head.only {n g f i : Nat} {oi : Oper} {listed : Array Bool} {a : Act} {w : World} (hi : ops[i]? = some oi)
    (hB : (decide (Region.ready .any ops listed = [i]) && decide (i < n)) = true) (hw : Region.wanted oi (yielded ops a.tmps) = true)
    (h : oi.wpIn (FW ro) m P a w (fun a' w' => S w' ∧ Head ro m P ops Q S n g f (listed.setIfInBounds i true) a' w') (Nm Q)) :
    Head ro m P ops Q S n g (f + 1) listed a w := by
  simp only [Bool.and_eq_true, decide_eq_true_eq] at hB
  obtain ⟨hr, hin⟩ := hB
  have hr' : i ∈ Region.ready .any ops listed := by rw [hr]; simp
  refine ⟨fun inv => ⟨fun h0 => (by rw [hr] at h0; cases h0), fun j hj => ?_⟩⟩
  rw [hr] at hj
  have : j = i := by simpa using hj
  subst this
  refine ⟨hin, ?_⟩
  unfold wpOpIn
  simp only [hi]
  rw [if_pos hw]
  exact Oper.wpIn_mono (fun a' w' h' => ⟨h'.1, h'.2.run (inv.set hr' hin)⟩) h
theorem hd_call {n g f i : Nat} {listed : Array Bool} {F : FuncId} {args : Array Value} {R : Ending → World → Prop} (ha : Has ds a N E) (hi : ops[i]? = some o)
    (hR : (decide (Region.ready .any ops listed = [i]) && decide (i < n)) = true)
    (hB : (covers E o N && (wants E ops o == some true)) = true) (hr : (execOp (evalE E) o).run P w = .ok (.enter F args) w)
    (hC : Calls P F args w R) (h : ∀ e w', R e w' → ∃ v, e = .returned v ∧ S w' ∧ ∀ a, Has ds a N (putE E o.dst v) → Head ro m P ops Q S n g f (listed.setIfInBounds i true) a w') : Head ro m P ops Q S n g (f + 1) listed a w := by
  simp only [Bool.and_eq_true, beq_iff_eq] at hB
  refine Head.only hi hR (wants_eq ha hB.2) (op_call ha hB.1 hr hC fun e w' hR => ?_)
  obtain ⟨v, rfl, hs, hk⟩ := h e w' hR
  exact ⟨v, rfl, hs, hk _ (ha.put _ _ (covers_dst hB.1))⟩
theorem hd_ex {n g f i : Nat} {listed : Array Bool} {R : Value → World → Prop} (ha : Has ds a N E) (hi : ops[i]? = some o)
    (hR : (decide (Region.ready .any ops listed = [i]) && decide (i < n)) = true)
    (hB : (covers E o N && (wants E ops o == some true)) = true) (hr : ∃ v w1, (execOp (evalE E) o).run P w = .ok (.value v) w1 ∧ R v w1)
    (h : ∀ v w1, R v w1 → S w1 ∧ ∀ a, Has ds a N (putE E o.dst v) → Head ro m P ops Q S n g f (listed.setIfInBounds i true) a w1) : Head ro m P ops Q S n g (f + 1) listed a w := by
  obtain ⟨v, w1, hr, hRv⟩ := hr
  obtain ⟨hs, hk⟩ := h v w1 hRv
  simp only [Bool.and_eq_true, beq_iff_eq] at hB
  exact Head.only hi hR (wants_eq ha hB.2) (op_ok ha hB.1 hr ⟨hs, hk _ (ha.put _ _ (covers_dst hB.1))⟩)
end
end
end Go.Proofs.YtagbmfdheppmoaaGreatDoor.Sep.J
