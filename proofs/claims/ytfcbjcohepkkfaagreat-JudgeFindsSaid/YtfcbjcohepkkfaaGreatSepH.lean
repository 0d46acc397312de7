import Derived.Test.YtfcbjcohepkkfaaGreatSepA
import Derived.KernelRfl
/-
  A region's head in which several operations that turn the world may come first: each is walked as the first one.
-/
namespace Go.Proofs.YtfcbjcohepkkfaaGreat.Sep
open Go.RowKit
section
variable {P : Program} {ops : Array Oper} {Q : Exit → Act → World → Prop} {a : Act} {w : World} {o : Oper} {N : Nat} {E : Env} {S : World → Prop}
/-- Operation i comes next. -/
def HeadAt (P : Program) (ops : Array Oper) (Q : Exit → Act → World → Prop) (S : World → Prop) (n g f i : Nat) (listed : Array Bool) (a : Act) (w : World) : Prop :=
  i ∈ Region.ready .any ops listed → i < n → HeadInv .any ops n listed →
    wpOp P ops Q i (fun a' w' => S w' ∧ wpHT P .any ops Q S n (fun listed' a' w' => Region.seqB .any ops g n listed' = true ∧ wpList P ops Q (ops.toList.drop n) a' w') f (listed.setIfInBounds i true) a' w') a w
theorem HeadAt.mk {n g f i : Nat} {oi : Oper} {listed : Array Bool} (hi : ops[i]? = some oi)
    (h : if Region.wanted oi (yielded ops a.tmps) then oi.wp P a w (fun a' w' => S w' ∧ Head P .any ops Q S n g f (listed.setIfInBounds i true) a' w') Q else S w ∧ Head P .any ops Q S n g f (listed.setIfInBounds i true) (a.put oi.dst undef) w) :
    HeadAt P ops Q S n g f i listed a w := by
  intro hr hin inv
  unfold wpOp
  simp only [hi]
  split
  · rename_i hw
    rw [if_pos hw] at h
    exact .inl (Oper.wp_mono (fun a' w' h' => ⟨h'.1, h'.2.run (inv.set hr hin)⟩) h)
  · rename_i hw
    rw [if_neg hw] at h
    exact ⟨h.1, h.2.run (inv.set hr hin)⟩
theorem Head.two {n g f i j : Nat} {listed : Array Bool} (hB : (decide (Region.ready .any ops listed = [i, j]) && (decide (i < n) && decide (j < n))) = true)
    (h1 : HeadAt P ops Q S n g f i listed a w) (h2 : HeadAt P ops Q S n g f j listed a w) : Head P .any ops Q S n g (f + 1) listed a w := by
  simp only [Bool.and_eq_true, decide_eq_true_eq] at hB
  obtain ⟨hr, hin, hjn⟩ := hB
  refine ⟨fun inv => ⟨fun h0 => (by rw [hr] at h0; cases h0), fun q hq => ?_⟩⟩
  have hq' := hq
  rw [hr] at hq
  rcases List.mem_cons.1 hq with rfl | hq
  · exact ⟨hin, h1 hq' hin inv⟩
  · have : q = j := by simpa using hq
    subst this
    exact ⟨hjn, h2 hq' hjn inv⟩
theorem hat_call {n g f i : Nat} {listed : Array Bool} {F : FuncId} {args : Array Value} {R : Ending → World → Prop} (ha : Has a N E) (hi : ops[i]? = some o)
    (hB : (covers E o N && (wants E ops o == some true)) = true) (hr : (execOp (evalE E) o).run P w = .ok (.enter F args) w)
    (hC : Calls P F args w R) (h : ∀ e w', R e w' → ∃ v, e = .returned v ∧ S w' ∧ ∀ a, Has a N (putE E o.dst v) → Head P .any ops Q S n g f (listed.setIfInBounds i true) a w') : HeadAt P ops Q S n g f i listed a w := by
  simp only [Bool.and_eq_true, beq_iff_eq] at hB
  refine HeadAt.mk hi ?_
  rw [if_pos (wants_eq ha hB.2)]
  unfold Oper.wp
  rw [covers_eval ha hB.1, hr]
  refine Calls.mono hC fun e w' hR => ?_
  obtain ⟨v, rfl, hs, hk⟩ := h e w' hR
  exact ⟨hs, hk _ (ha.put _ _ (covers_dst hB.1))⟩
theorem hat_ex {n g f i : Nat} {listed : Array Bool} {R : Value → World → Prop} (ha : Has a N E) (hi : ops[i]? = some o)
    (hB : (covers E o N && (wants E ops o == some true)) = true) (hr : ∃ v w1, (execOp (evalE E) o).run P w = .ok (.value v) w1 ∧ R v w1)
    (h : ∀ v w1, R v w1 → S w1 ∧ ∀ a, Has a N (putE E o.dst v) → Head P .any ops Q S n g f (listed.setIfInBounds i true) a w1) : HeadAt P ops Q S n g f i listed a w := by
  obtain ⟨v, w1, hr, hRv⟩ := hr
  obtain ⟨hs, hk⟩ := h v w1 hRv
  simp only [Bool.and_eq_true, beq_iff_eq] at hB
  refine HeadAt.mk hi ?_
  rw [if_pos (wants_eq ha hB.2)]
  unfold Oper.wp
  rw [covers_eval ha hB.1, hr]
  exact ⟨hs, hk _ (ha.put _ _ (covers_dst hB.1))⟩
/-- What stands between two pieces of code. -/
theorem wp_between {x y : Code} (R : Act → World → Prop) (h1 : x.wp P (Exit.then R fun _ _ _ => False) a w) (h2 : ∀ a w, R a w → y.wp P Q a w) : (Code.seq x y).wp P Q a w :=
  wp_seq (wp_mono h1 fun e a w h => by
    cases e with
    | normal => exact h2 a w h
    | _ => exact h.elim)
end
end Go.Proofs.YtfcbjcohepkkfaaGreat.Sep

/-
  A head's orders that meet again (Head.fork); three operations that may come first; append onto a slice that is full: what it was made of stays as it is.
-/
namespace Go.Proofs.YtfcbjcohepkkfaaGreat.Sep
open Go.RowKit
set_option linter.unusedVariables false
section
variable {P : Program} {ops : Array Oper} {Q : Exit → Act → World → Prop} {a : Act} {w W : World} {L : List Chunk} {o : Oper} {N : Nat} {E : Env} {S : World → Prop}
theorem Head.fork {n g f k : Nat} {listed : Array Bool} (D : List Bool) (R : Act → World → Prop)
    (h : (∀ (l : Array Bool) (a : Act) (w : World), (l.toList == D) = true → R a w → Head P .any ops Q S n g k l a w) → Head P .any ops Q S n g f listed a w)
    (hK : ∀ a w, R a w → Head P .any ops Q S n g k D.toArray a w) : Head P .any ops Q S n g f listed a w :=
  h fun l a w hl hR => by
    have e : l.toList = D := eq_of_beq hl
    have : l = D.toArray := by rw [← e]
    rw [this]; exact hK a w hR
theorem Head.three {n g f i j k : Nat} {listed : Array Bool} (hB : (decide (Region.ready .any ops listed = [i, j, k]) && (decide (i < n) && decide (j < n) && decide (k < n))) = true)
    (h1 : HeadAt P ops Q S n g f i listed a w) (h2 : HeadAt P ops Q S n g f j listed a w) (h3 : HeadAt P ops Q S n g f k listed a w) : Head P .any ops Q S n g (f + 1) listed a w := by
  simp only [Bool.and_eq_true, decide_eq_true_eq] at hB
  obtain ⟨hr, ⟨hin, hjn⟩, hkn⟩ := hB
  refine ⟨fun inv => ⟨fun h0 => (by rw [hr] at h0; cases h0), fun q hq => ?_⟩⟩
  have hq' := hq
  rw [hr] at hq
  rcases List.mem_cons.1 hq with rfl | hq
  · exact ⟨hin, h1 hq' hin inv⟩
  · rcases List.mem_cons.1 hq with rfl | hq
    · exact ⟨hjn, h2 hq' hjn inv⟩
    · have : q = k := by simpa using hq
      subst this
      exact ⟨hkn, h3 hq' hkn inv⟩
end
end Go.Proofs.YtfcbjcohepkkfaaGreat.Sep

/-
  Short forms: what the kernel settles by itself is left out of the text.
-/
namespace Go.Proofs.YtfcbjcohepkkfaaGreat.Sep
open Go.RowKit
section
variable {P : Program} {ops : Array Oper} {Q Q2 : Exit → Act → World → Prop} {a : Act} {w W : World} {o : Oper} {rest : List Oper} {N : Nat} {E : Env} {S : World → Prop}
theorem zv (v : Value) (ha : Has a N E) (h : ∀ a, Has a N (putE E o.dst v) → wpList P ops Q rest a w) (hB : (covers E o N && (wants E ops o == some true)) = true := by kernel_rfl) (hr : (execOp (evalE E) o).run P w = .ok (.value v) w := by kernel_rfl) : wpList P ops Q (o :: rest) a w := st_val v ha hB hr h
theorem zw (v : Value) (ha : Has a N E) (hr : (execOp (evalE E) o).run P w = .ok (.value v) w) (h : ∀ a, Has a N (putE E o.dst v) → wpList P ops Q rest a w) (hB : (covers E o N && (wants E ops o == some true)) = true := by kernel_rfl) : wpList P ops Q (o :: rest) a w := st_val v ha hB hr h
theorem zp (ha : Has a N E) (h : ∀ a, Has a N (putE E o.dst undef) → wpList P ops Q rest a w) (hB : (covers E { o with op := .alloc 0 } N && (wants E ops o == some false)) = true := by kernel_rfl) : wpList P ops Q (o :: rest) a w := st_pass ha hB h
theorem yv {n g f i : Nat} {listed : Array Bool} (v : Value) (ha : Has a N E) (hr : ∀ w, S w → (execOp (evalE E) o).run P w = .ok (.value v) w) (hS : S w)
    (h : ∀ a, Has a N (putE E o.dst v) → Head P .any ops Q S n g f (listed.setIfInBounds i true) a w) (hi : ops[i]? = some o := by rfl)
    (hR : (Region.noSelect ops && decide (n < ops.size) && Region.sinkB .any ops n && Region.chainB .any ops n && decide (i < n) && Region.free .any ops listed i && (Region.ready .any ops listed).contains i) = true := by kernel_rfl)
    (hQ : ∀ c a w, Q (.panic c) (a.put o.dst v) w → Q (.panic c) a w := by exact fun _ _ _ h => h) (hB : (covers E o N && (wants E ops o == some true)) = true := by kernel_rfl) : Head P .any ops Q S n g (f + 1) listed a w := hd_val v ha hi hR hQ hB hr hS h
theorem yk {n g f i : Nat} {listed : Array Bool} (v : Value) (ha : Has a N E) (hS : S w)
    (h : ∀ a, Has a N (putE E o.dst v) → Head P .any ops Q S n g f (listed.setIfInBounds i true) a w) (hi : ops[i]? = some o := by rfl)
    (hR : (Region.noSelect ops && decide (n < ops.size) && Region.sinkB .any ops n && Region.chainB .any ops n && decide (i < n) && Region.free .any ops listed i && (Region.ready .any ops listed).contains i) = true := by kernel_rfl)
    (hQ : ∀ c a w, Q (.panic c) (a.put o.dst v) w → Q (.panic c) a w := by exact fun _ _ _ h => h) (hB : (covers E o N && (wants E ops o == some true)) = true := by kernel_rfl)
    (hr : ∀ w, S w → (execOp (evalE E) o).run P w = .ok (.value v) w := by intro _ _; kernel_rfl) : Head P .any ops Q S n g (f + 1) listed a w := hd_val v ha hi hR hQ hB hr hS h
theorem yp {n g f i : Nat} {listed : Array Bool} (ha : Has a N E) (hS : S w)
    (h : ∀ a, Has a N (putE E o.dst undef) → Head P .any ops Q S n g f (listed.setIfInBounds i true) a w) (hi : ops[i]? = some o := by rfl)
    (hR : (Region.noSelect ops && decide (n < ops.size) && Region.sinkB .any ops n && Region.chainB .any ops n && decide (i < n) && Region.free .any ops listed i && (Region.ready .any ops listed).contains i) = true := by kernel_rfl)
    (hQ : ∀ c a w, Q (.panic c) (a.put o.dst undef) w → Q (.panic c) a w := by exact fun _ _ _ h => h) (hB : (covers E { o with op := .alloc 0 } N && (wants E ops o == some false)) = true := by kernel_rfl) : Head P .any ops Q S n g (f + 1) listed a w := hd_pass ha hi hR hQ hB hS h
/-- The same, one behind the other: what came ahead stands as 'for every state'. -/
theorem zzv (v : Value) (h : ∀ a, Has a N (putE E o.dst v) → wpList P ops Q rest a w) (hB : (covers E o N && (wants E ops o == some true)) = true := by kernel_rfl) (hr : (execOp (evalE E) o).run P w = .ok (.value v) w := by kernel_rfl) : ∀ a, Has a N E → wpList P ops Q (o :: rest) a w := fun a ha => st_val v ha hB hr h
theorem zzw (v : Value) (hr : (execOp (evalE E) o).run P w = .ok (.value v) w) (h : ∀ a, Has a N (putE E o.dst v) → wpList P ops Q rest a w) (hB : (covers E o N && (wants E ops o == some true)) = true := by kernel_rfl) : ∀ a, Has a N E → wpList P ops Q (o :: rest) a w := fun a ha => st_val v ha hB hr h
theorem zzp (h : ∀ a, Has a N (putE E o.dst undef) → wpList P ops Q rest a w) (hB : (covers E { o with op := .alloc 0 } N && (wants E ops o == some false)) = true := by kernel_rfl) : ∀ a, Has a N E → wpList P ops Q (o :: rest) a w := fun a ha => st_pass ha hB h
theorem yyv {n g f i : Nat} {listed : Array Bool} (v : Value) (hr : ∀ w, S w → (execOp (evalE E) o).run P w = .ok (.value v) w) (hS : S w)
    (h : ∀ a, Has a N (putE E o.dst v) → Head P .any ops Q S n g f (listed.setIfInBounds i true) a w) (hi : ops[i]? = some o := by rfl)
    (hR : (Region.noSelect ops && decide (n < ops.size) && Region.sinkB .any ops n && Region.chainB .any ops n && decide (i < n) && Region.free .any ops listed i && (Region.ready .any ops listed).contains i) = true := by kernel_rfl)
    (hQ : ∀ c a w, Q (.panic c) (a.put o.dst v) w → Q (.panic c) a w := by exact fun _ _ _ h => h) (hB : (covers E o N && (wants E ops o == some true)) = true := by kernel_rfl) : ∀ a, Has a N E → Head P .any ops Q S n g (f + 1) listed a w := fun a ha => hd_val v ha hi hR hQ hB hr hS h
theorem yyk {n g f i : Nat} {listed : Array Bool} (v : Value) (hS : S w)
    (h : ∀ a, Has a N (putE E o.dst v) → Head P .any ops Q S n g f (listed.setIfInBounds i true) a w) (hi : ops[i]? = some o := by rfl)
    (hR : (Region.noSelect ops && decide (n < ops.size) && Region.sinkB .any ops n && Region.chainB .any ops n && decide (i < n) && Region.free .any ops listed i && (Region.ready .any ops listed).contains i) = true := by kernel_rfl)
    (hQ : ∀ c a w, Q (.panic c) (a.put o.dst v) w → Q (.panic c) a w := by exact fun _ _ _ h => h) (hB : (covers E o N && (wants E ops o == some true)) = true := by kernel_rfl)
    (hr : ∀ w, S w → (execOp (evalE E) o).run P w = .ok (.value v) w := by intro _ _; kernel_rfl) : ∀ a, Has a N E → Head P .any ops Q S n g (f + 1) listed a w := fun a ha => hd_val v ha hi hR hQ hB hr hS h
theorem yyp {n g f i : Nat} {listed : Array Bool} (hS : S w)
    (h : ∀ a, Has a N (putE E o.dst undef) → Head P .any ops Q S n g f (listed.setIfInBounds i true) a w) (hi : ops[i]? = some o := by rfl)
    (hR : (Region.noSelect ops && decide (n < ops.size) && Region.sinkB .any ops n && Region.chainB .any ops n && decide (i < n) && Region.free .any ops listed i && (Region.ready .any ops listed).contains i) = true := by kernel_rfl)
    (hQ : ∀ c a w, Q (.panic c) (a.put o.dst undef) w → Q (.panic c) a w := by exact fun _ _ _ h => h) (hB : (covers E { o with op := .alloc 0 } N && (wants E ops o == some false)) = true := by kernel_rfl) : ∀ a, Has a N E → Head P .any ops Q S n g (f + 1) listed a w := fun a ha => hd_pass ha hi hR hQ hB hS h
theorem zn2 {x : Act → World → Prop} (h : x a w) : wpList P ops (Exit.then x Q) [] a w := wpList_nil (then_normal h)
theorem zn3 {id : Nat} {l : List Oper} (h : wpList P l.toArray Q2 l a w) : wpList P ops (Exit.then ((Code.region id l.toArray false).wp P Q2) Q) [] a w := wpList_nil (then_normal (wp_region_lit h))
theorem zn4 {id : Nat} {l : List Oper} {y : Code} (h : wpList P l.toArray (Exit.then (y.wp P Q2) Q2) l a w) : wpList P ops (Exit.then ((Code.seq (Code.region id l.toArray false) y).wp P Q2) Q) [] a w := wpList_nil (then_normal (wp_seq (wp_region_lit h)))
theorem zn1 {id : Nat} {l : List Oper} {y : Code} (h : wpList P l.toArray (Exit.then (y.wp P Q) Q) l a w) : (Code.seq (Code.region id l.toArray false) y).wp P Q a w := wp_seq (wp_region_lit h)
end
end Go.Proofs.YtfcbjcohepkkfaaGreat.Sep
