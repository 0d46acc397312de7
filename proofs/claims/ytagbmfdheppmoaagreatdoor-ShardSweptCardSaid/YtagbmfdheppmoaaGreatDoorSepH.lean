import Derived.Test.YtagbmfdheppmoaaGreatDoorSepX
/-
  A region's head in which several operations that turn the world may come first: each is walked as the first one.
-/
namespace Go.Proofs.YtagbmfdheppmoaaGreatDoor.Sep
open Go.RowKit
section
variable {P : Program} {ops : Array Oper} {Q : Exit → Act → World → Prop} {a : Act} {w : World} {o : Oper} {N : Nat} {E : Env} {S : World → Prop}
/-- Operation i comes next. -/
def HeadAt (P : Program) (ops : Array Oper) (Q : Exit → Act → World → Prop) (S : World → Prop) (n g f i : Nat) (listed : Array Bool) (a : Act) (w : World) : Prop :=
  i ∈ Region.ready .any ops listed → i < n → HeadInv .any ops n listed →
    wpOp P ops Q i (fun a' w' => S w' ∧ wpHT P .any ops Q S n (fun listed' a' w' => Region.seqB .any ops g n listed' = true ∧ wpList P ops Q (ops.toList.drop n) a' w') f (listed.setIfInBounds i true) a' w') a w
theorem HeadAt.mk {n g f i : Nat} {oi : Oper} {listed : Array Bool} (hi : ops[i]? = some oi)
    (h : if Region.wanted oi (yielded ops a.tmps) then oi.wp P a w (fun a' w' => S w' ∧ Head P .any ops Q S n g f (listed.setIfInBounds i true) a' w') Q else S w ∧ Head P .any ops Q S n g f (listed.setIfInBounds i true) (a.put oi.dst undef) w) :
    HeadAt P ops Q S n g f i listed a w := by
  intro hr hin inv
  unfold wpOp
  simp only [hi]
  split
  · rename_i hw
    rw [if_pos hw] at h
    exact .inl (Oper.wp_mono (fun a' w' h' => ⟨h'.1, h'.2.run (inv.set hr hin)⟩) h)
  · rename_i hw
    rw [if_neg hw] at h
    exact ⟨h.1, h.2.run (inv.set hr hin)⟩
theorem Head.two {n g f i j : Nat} {listed : Array Bool} (hB : (decide (Region.ready .any ops listed = [i, j]) && (decide (i < n) && decide (j < n))) = true)
    (h1 : HeadAt P ops Q S n g f i listed a w) (h2 : HeadAt P ops Q S n g f j listed a w) : Head P .any ops Q S n g (f + 1) listed a w := by
  simp only [Bool.and_eq_true, decide_eq_true_eq] at hB
  obtain ⟨hr, hin, hjn⟩ := hB
  refine ⟨fun inv => ⟨fun h0 => (by rw [hr] at h0; cases h0), fun q hq => ?_⟩⟩
  have hq' := hq
  rw [hr] at hq
  rcases List.mem_cons.1 hq with rfl | hq
  · exact ⟨hin, h1 hq' hin inv⟩
  · have : q = j := by simpa using hq
    subst this
    exact ⟨hjn, h2 hq' hjn inv⟩
theorem hat_call {n g f i : Nat} {listed : Array Bool} {F : FuncId} {args : Array Value} {R : Ending → World → Prop} (ha : Has a N E) (hi : ops[i]? = some o)
    (hB : (covers E o N && (wants E ops o == some true)) = true) (hr : (execOp (evalE E) o).run P w = .ok (.enter F args) w)
    (hC : Calls P F args w R) (h : ∀ e w', R e w' → ∃ v, e = .returned v ∧ S w' ∧ ∀ a, Has a N (putE E o.dst v) → Head P .any ops Q S n g f (listed.setIfInBounds i true) a w') : HeadAt P ops Q S n g f i listed a w := by
  simp only [Bool.and_eq_true, beq_iff_eq] at hB
  refine HeadAt.mk hi ?_
  rw [if_pos (wants_eq ha hB.2)]
  unfold Oper.wp
  rw [covers_eval ha hB.1, hr]
  refine Calls.mono hC fun e w' hR => ?_
  obtain ⟨v, rfl, hs, hk⟩ := h e w' hR
  exact ⟨hs, hk _ (ha.put _ _ (covers_dst hB.1))⟩
theorem hat_ex {n g f i : Nat} {listed : Array Bool} {R : Value → World → Prop} (ha : Has a N E) (hi : ops[i]? = some o)
    (hB : (covers E o N && (wants E ops o == some true)) = true) (hr : ∃ v w1, (execOp (evalE E) o).run P w = .ok (.value v) w1 ∧ R v w1)
    (h : ∀ v w1, R v w1 → S w1 ∧ ∀ a, Has a N (putE E o.dst v) → Head P .any ops Q S n g f (listed.setIfInBounds i true) a w1) : HeadAt P ops Q S n g f i listed a w := by
  obtain ⟨v, w1, hr, hRv⟩ := hr
  obtain ⟨hs, hk⟩ := h v w1 hRv
  simp only [Bool.and_eq_true, beq_iff_eq] at hB
  refine HeadAt.mk hi ?_
  rw [if_pos (wants_eq ha hB.2)]
  unfold Oper.wp
  rw [covers_eval ha hB.1, hr]
  exact ⟨hs, hk _ (ha.put _ _ (covers_dst hB.1))⟩
/-- What stands between two pieces of code. -/
theorem wp_between {x y : Code} (R : Act → World → Prop) (h1 : x.wp P (Exit.then R fun _ _ _ => False) a w) (h2 : ∀ a w, R a w → y.wp P Q a w) : (Code.seq x y).wp P Q a w :=
  wp_seq (wp_mono h1 fun e a w h => by
    cases e with
    | normal => exact h2 a w h
    | _ => exact h.elim)
end
end Go.Proofs.YtagbmfdheppmoaaGreatDoor.Sep
