import Derived.Test.YtagbmfdheppmoaaGreatDoorSepX
import Derived.RangeFuncRecord
import Derived.RangeFuncIn
import Derived.RangeFuncCalls
import Derived.TacticsIn
import Derived.Sort.LoopGhostIn
/-
  The walk in whatever frame: in the rounds of a loop over a function, and in a function that has such loops.
-/
namespace Go.Proofs.YtagbmfdheppmoaaGreatDoor.Sep.J
open Go.RowKit
/-- Frames that are rounds of the loop ro, or none. -/
def FW (ro : Option Nat) : Fence := { Fence.wide with round := ro }
structure Has (ds : List Deferred) (a : Act) (N : Nat) (E : Env) : Prop where
  size : a.tmps.size = N
  defers : a.defers = ds
  get : ∀ t, isIn E t = true → a.tmps[t]? = some (look E t)
section
variable {P : Program} {ops : Array Oper} {Q : Exit → Act → World → Prop} {K : Act → World → Prop} {a : Act} {w W : World} {L : List Chunk} {rest : List Oper} {o : Oper} {N : Nat} {E : Env} {S : World → Prop} {ds : List Deferred} {ro : Option Nat} {m : Nat}
theorem Has.bare (h : Has ds a N E) : Sep.Has { a with defers := [] } N E := ⟨h.size, rfl, h.get⟩
theorem Has.of (h : Sep.Has a N E) : Has [] a N E := ⟨h.size, h.defers, h.get⟩
theorem Has.back (h : Has [] a N E) : Sep.Has a N E := ⟨h.size, h.defers, h.get⟩
theorem put_defers (a : Act) (d : Option Tmp) (v : Value) : (a.put d v).defers = a.defers := by cases d <;> rfl
theorem Has.put (h : Has ds a N E) (d : Option Tmp) (v : Value) (hd : ∀ t, d = some t → t < N) : Has ds (a.put d v) N (putE E d v) := by
  have := h.bare.put d v hd
  refine ⟨?_, by rw [put_defers]; exact h.defers, fun t i => ?_⟩
  · have h1 := this.size; cases d <;> exact h1
  · have h1 := this.get t i; cases d <;> exact h1
theorem Has.nil (h : Has ds a N E) : Has ds a N [] := ⟨h.size, h.defers, fun t i => by simp [isIn] at i⟩
theorem Has.cons {E E' : Env} {t : Nat} {v : Value} (h : Has ds a N E) (i : isIn E t = true) (e : look E t = v) (h' : Has ds a N E') : Has ds a N ((t, v) :: E') := by
  have := h.bare.cons i e h'.bare
  exact ⟨h.size, h.defers, this.get⟩
def covers (E : Env) (o : Oper) (N : Nat) : Bool := Sep.covers E o N && (match o.op with | .defer _ => false | _ => true)
theorem covers_eval (h : Has ds a N E) (c : covers E o N = true) : execOp a.eval o = execOp (evalE E) o := by
  simp only [covers, Bool.and_eq_true] at c
  exact Sep.covers_eval (a := { a with defers := [] }) h.bare c.1
theorem covers_dst (c : covers E o N = true) : ∀ t, o.dst = some t → t < N := by
  simp only [covers, Bool.and_eq_true] at c
  exact Sep.covers_dst c.1
theorem covers_nd (c : covers E o N = true) : ∀ c, o.op ≠ .defer c := by
  simp only [covers, Bool.and_eq_true] at c
  intro d e
  rw [e] at c
  simp at c
theorem wants_eq {b : Bool} (h : Has ds a N E) (c : wants E ops o = some b) : Region.wanted o (yielded ops a.tmps) = b := Sep.wants_eq (a := { a with defers := [] }) h.bare c
theorem calls_in {f : FuncId} {args : Array Value} {R : Ending → World → Prop} (h : Calls P f args w R) : CallsIn (FW ro) m P f args w R := by
  cases ro with
  | none => exact callsIn_wide.2 h
  | some l => exact CallsIn.inRound l (callsIn_wide.2 h)
theorem calls_out {f : FuncId} {args : Array Value} {R : Ending → World → Prop} (h : CallsIn (FW none) m P f args w R) : Calls P f args w R := callsIn_wide.1 h
/-! ### operations one behind the other -/
theorem op_ok {v : Value} {w1 : World} (ha : Has ds a N E) (hc : covers E o N = true) (hr : (execOp (evalE E) o).run P w = .ok (.value v) w1) (h : K (a.put o.dst v) w1) : o.wpIn (FW ro) m P a w K Q := by
  refine ⟨fun f _ => trivial, ?_⟩
  rw [Oper.semAt_eq _ _ _ (covers_nd hc), covers_eval ha hc, hr]
  exact h
theorem op_do {w1 : World} (ha : Has ds a N E) (hc : covers E o N = true) (hr : (execOp (evalE E) o).run P w = .ok .skip w1) (h : K (a.put o.dst undef) w1) : o.wpIn (FW ro) m P a w K Q := by
  refine ⟨fun f _ => trivial, ?_⟩
  rw [Oper.semAt_eq _ _ _ (covers_nd hc), covers_eval ha hc, hr]
  exact h
theorem op_call {f : FuncId} {args : Array Value} {R : Ending → World → Prop} (ha : Has ds a N E) (hc : covers E o N = true) (hr : (execOp (evalE E) o).run P w = .ok (.enter f args) w) (hC : Calls P f args w R)
    (h : ∀ e w', R e w' → ∃ v, e = .returned v ∧ K (a.put o.dst v) w') : o.wpIn (FW ro) m P a w K Q := by
  refine ⟨fun f _ => trivial, ?_⟩
  rw [Oper.semAt_eq _ _ _ (covers_nd hc), covers_eval ha hc, hr]
  refine ⟨fun h => (by cases h), CallsIn.mono (calls_in hC) fun e w' hR => ?_⟩
  obtain ⟨v, rfl, hk⟩ := h e w' hR
  exact hk
/-- A call that asks for a round. -/
theorem op_round {l : Nat} {f : FuncId} {tmps : Array Value} {sg bd : Code} {R : Ending → World → Prop} (ha : Has ds a N E) (hc : covers E o N = true) (hr : (execOp (evalE E) o).run P w = .ok (.round l f tmps sg bd) w) (hC : RoundIn (FW ro) (m - 1) P l f tmps sg bd w R)
    (h : ∀ e w', R e w' → ∃ v, e = .returned v ∧ K (a.put o.dst v) w') : o.wpIn (FW ro) m P a w K Q := by
  refine ⟨fun f _ => trivial, ?_⟩
  rw [Oper.semAt_eq _ _ _ (covers_nd hc), covers_eval ha hc, hr]
  refine ⟨fun h => (by cases h), RoundIn.mono hC fun e w' hR => ?_⟩
  obtain ⟨v, rfl, hk⟩ := h e w' hR
  exact hk
theorem st_val (v : Value) (ha : Has ds a N E) (hB : (covers E o N && (wants E ops o == some true)) = true) (hr : (execOp (evalE E) o).run P w = .ok (.value v) w)
    (h : ∀ a, Has ds a N (putE E o.dst v) → wpListIn (FW ro) m P ops Q rest a w) : wpListIn (FW ro) m P ops Q (o :: rest) a w := by
  simp only [Bool.and_eq_true, beq_iff_eq] at hB
  show (if _ then _ else _)
  rw [if_pos (wants_eq ha hB.2)]
  exact op_ok ha hB.1 hr (h _ (ha.put _ _ (covers_dst hB.1)))
theorem st_pass (ha : Has ds a N E) (hB : (covers E { o with op := .alloc 0 } N && (wants E ops o == some false)) = true)
    (h : ∀ a, Has ds a N (putE E o.dst undef) → wpListIn (FW ro) m P ops Q rest a w) : wpListIn (FW ro) m P ops Q (o :: rest) a w := by
  simp only [Bool.and_eq_true, beq_iff_eq] at hB
  show (if _ then _ else _)
  rw [if_neg (by rw [wants_eq ha hB.2]; simp)]
  exact ⟨fun f _ => trivial, h _ (ha.put _ _ (covers_dst (o := { o with op := .alloc 0 }) hB.1))⟩
theorem st_ex {R : Value → World → Prop} (ha : Has ds a N E) (hB : (covers E o N && (wants E ops o == some true)) = true) (hr : ∃ v w1, (execOp (evalE E) o).run P w = .ok (.value v) w1 ∧ R v w1)
    (h : ∀ v w1 a, R v w1 → Has ds a N (putE E o.dst v) → wpListIn (FW ro) m P ops Q rest a w1) : wpListIn (FW ro) m P ops Q (o :: rest) a w := by
  obtain ⟨v, w1, hr, hR⟩ := hr
  simp only [Bool.and_eq_true, beq_iff_eq] at hB
  show (if _ then _ else _)
  rw [if_pos (wants_eq ha hB.2)]
  exact op_ok ha hB.1 hr (h _ _ _ hR (ha.put _ _ (covers_dst hB.1)))
theorem st_exd {R : World → Prop} (ha : Has ds a N E) (hB : (covers E o N && (wants E ops o == some true)) = true) (hr : ∃ w1, (execOp (evalE E) o).run P w = .ok .skip w1 ∧ R w1)
    (h : ∀ w1 a, R w1 → Has ds a N (putE E o.dst undef) → wpListIn (FW ro) m P ops Q rest a w1) : wpListIn (FW ro) m P ops Q (o :: rest) a w := by
  obtain ⟨w1, hr, hR⟩ := hr
  simp only [Bool.and_eq_true, beq_iff_eq] at hB
  show (if _ then _ else _)
  rw [if_pos (wants_eq ha hB.2)]
  exact op_do ha hB.1 hr (h _ _ hR (ha.put _ _ (covers_dst hB.1)))
theorem st_call {f : FuncId} {args : Array Value} {R : Ending → World → Prop} (ha : Has ds a N E) (hB : (covers E o N && (wants E ops o == some true)) = true) (hr : (execOp (evalE E) o).run P w = .ok (.enter f args) w)
    (hC : Calls P f args w R) (h : ∀ e w', R e w' → ∃ v, e = .returned v ∧ ∀ a, Has ds a N (putE E o.dst v) → wpListIn (FW ro) m P ops Q rest a w') : wpListIn (FW ro) m P ops Q (o :: rest) a w := by
  simp only [Bool.and_eq_true, beq_iff_eq] at hB
  show (if _ then _ else _)
  rw [if_pos (wants_eq ha hB.2)]
  refine op_call ha hB.1 hr hC fun e w' hR => ?_
  obtain ⟨v, rfl, hk⟩ := h e w' hR
  exact ⟨v, rfl, hk _ (ha.put _ _ (covers_dst hB.1))⟩
theorem st_round {l : Nat} {f : FuncId} {tmps : Array Value} {sg bd : Code} {R : Ending → World → Prop} (ha : Has ds a N E) (hB : (covers E o N && (wants E ops o == some true)) = true) (hr : (execOp (evalE E) o).run P w = .ok (.round l f tmps sg bd) w)
    (hC : RoundIn (FW ro) (m - 1) P l f tmps sg bd w R) (h : ∀ e w', R e w' → ∃ v, e = .returned v ∧ ∀ a, Has ds a N (putE E o.dst v) → wpListIn (FW ro) m P ops Q rest a w') : wpListIn (FW ro) m P ops Q (o :: rest) a w := by
  simp only [Bool.and_eq_true, beq_iff_eq] at hB
  show (if _ then _ else _)
  rw [if_pos (wants_eq ha hB.2)]
  refine op_round ha hB.1 hr hC fun e w' hR => ?_
  obtain ⟨v, rfl, hk⟩ := h e w' hR
  exact ⟨v, rfl, hk _ (ha.put _ _ (covers_dst hB.1))⟩
theorem wpList_nil (h : Q .normal a w) : wpListIn (FW ro) m P ops Q [] a w := h
/-! ### control -/
theorem wp_region_lit {id : Nat} {l : List Oper} (h : wpListIn (FW ro) m P l.toArray Q l a w) : (Code.region id l.toArray false).wpIn (FW ro) m P Q a w := wpIn_region_list h
theorem wp_seq {x y : Code} (h : x.wpIn (FW ro) m P (Exit.then (y.wpIn (FW ro) m P Q) Q) a w) : (Code.seq x y).wpIn (FW ro) m P Q a w := wpIn_seq h
theorem wp_skip (h : Q .normal a w) : Code.skip.wpIn (FW ro) m P Q a w := wpIn_skip h
theorem wp_exit {id : Nat} (h : Q (.exit id) a w) : (Code.exit id).wpIn (FW ro) m P Q a w := wpIn_exit h
theorem wp_ret (h : Q .ret a w) : Code.ret.wpIn (FW ro) m P Q a w := wpIn_ret h
theorem wp_block {id : Nat} {c : Code} (h : c.wpIn (FW ro) m P (Exit.inBlock id Q) a w) : (Code.block id c).wpIn (FW ro) m P Q a w := wpIn_block h
theorem wp_if {c : Operand} {x y : Code} {t : Bool} (ha : Has ds a N E) (hc : (match c with | .tmp t => isIn E t | _ => true) = true) (hv : evalE E c = .bool t)
    (h : if t = true then x.wpIn (FW ro) m P Q a w else y.wpIn (FW ro) m P Q a w) : (Code.cond c x y).wpIn (FW ro) m P Q a w := by
  have he : a.eval c = .bool t := (ha.bare.eval fun u e => by subst e; exact hc).trans hv
  cases t
  · exact wpIn_cond_false he (by simpa using h)
  · exact wpIn_cond_true he (by simpa using h)
theorem wp_true {c : Operand} {x y : Code} (ha : Has ds a N E) (hc : (match c with | .tmp t => isIn E t | _ => true) = true) (hv : evalE E c = .bool true) (h : x.wpIn (FW ro) m P Q a w) : (Code.cond c x y).wpIn (FW ro) m P Q a w :=
  wp_if ha hc hv (by rw [if_pos rfl]; exact h)
theorem wp_false {c : Operand} {x y : Code} (ha : Has ds a N E) (hc : (match c with | .tmp t => isIn E t | _ => true) = true) (hv : evalE E c = .bool false) (h : y.wpIn (FW ro) m P Q a w) : (Code.cond c x y).wpIn (FW ro) m P Q a w :=
  wp_if ha hc hv (by rw [if_neg (by simp)]; exact h)
theorem wp_part {c : Operand} {x y : Code} (t : Bool) (ha : Has ds a N E) (hc : (match c with | .tmp t => isIn E t | _ => true) = true) (hv : evalE E c = .bool t) (h1 : t = true → x.wpIn (FW ro) m P Q a w) (h2 : t = false → y.wpIn (FW ro) m P Q a w) : (Code.cond c x y).wpIn (FW ro) m P Q a w := by
  refine wp_if ha hc hv ?_
  split
  · exact h1 (by assumption)
  · rename_i h; exact h2 (by simpa using h)
theorem wp_between {x y : Code} (R : Act → World → Prop) (h1 : x.wpIn (FW ro) m P (Exit.then R fun _ _ _ => False) a w) (h2 : ∀ a w, R a w → y.wpIn (FW ro) m P Q a w) : (Code.seq x y).wpIn (FW ro) m P Q a w :=
  wp_seq (wpIn_mono h1 fun e a w h => by
    cases e with
    | normal => exact h2 a w h
    | _ => exact h.elim)
theorem wp_loopG {G : Type} {c : Code} (I : G → Act → World → Prop) (μ : G → Nat) (g0 : G) (h0 : I g0 a w) (round : ∀ g a w, I g a w → c.wpIn (FW ro) m P (Exit.then (fun a' w' => ∃ g', μ g' < μ g ∧ I g' a' w') Q) a w) : (Code.loop c).wpIn (FW ro) m P Q a w := by
  refine wpIn_loop_ghost (fun n a w => ∃ g, μ g = n ∧ I g a w) (μ g0) ⟨g0, rfl, h0⟩ ?_
  rintro n a w ⟨g, rfl, hI⟩
  refine wpIn_mono (round g a w hI) fun e a' w' h => ?_
  cases e with
  | normal => obtain ⟨g', hlt, h'⟩ := h; exact ⟨μ g', hlt, g', rfl, h'⟩
  | _ => exact h
/-! ### from a call to the body, and back -/
theorem enter_args {f : FuncId} {fn : Func} {c : Code} {l : List Value} {R : Ending → World → Prop} (hf : P.funcs[f]? = some fn) (hb : fn.body = some c) (hn : fn.ntmps = N) (hs : l.length ≤ N)
    (h : ∀ a, Has [] a N (argsE l) → c.wpIn (FW none) m P (bodyPostM (FW none) m P fn R) a w) : CallsIn (FW none) m P f l.toArray w R := by
  refine callsIn_of_wp_marks hf hb trivial (h _ ⟨?_, rfl, fun t i => ?_⟩)
  · simp [hn]; omega
  · have h1 := isIn_zip l 0 t (by rw [argsE, List.range_eq_range'] at i; exact i)
    rw [argsE, List.range_eq_range']
    have h2 : l[t]? = some (look ((List.range' 0 l.length).zip l) t) := by simpa using h1.2
    have hlt := (List.getElem?_eq_some_iff.1 h2).1
    show (l.toArray ++ _)[t]? = _
    rw [Array.getElem?_append_left (by simpa using hlt)]
    simpa using h2
theorem res_bare {fn : Func} {v : Value} (hr : (results fn ({ a with defers := [] } : Act).tmps).run P w = .ok v w) : (results fn a.tmps).run P w = .ok v w := hr
theorem ret_with {fn : Func} {R : Ending → World → Prop} {v : Value} (ha : Has [] a N E) (hr : (results fn a.tmps).run P w = .ok v w) (h : R (.returned v) w) : bodyPostM (FW none) m P fn R .ret a w := by
  show LeavesInM _ _ _ _ _ _ a.defers _ _
  rw [ha.defers]
  exact ⟨v, hr, h⟩
theorem end_with {fn : Func} {R : Ending → World → Prop} {v : Value} (ha : Has [] a N E) (hr : (results fn a.tmps).run P w = .ok v w) (h : R (.returned v) w) : bodyPostM (FW none) m P fn R .normal a w := by
  show LeavesInM _ _ _ _ _ _ a.defers _ _
  rw [ha.defers]
  exact ⟨v, hr, h⟩
end
end Go.Proofs.YtagbmfdheppmoaaGreatDoor.Sep.J
