import Derived.Test.YtagbmfdheppmoaaGreatDoorSepR
import Derived.Laws.ResultCell
/-
  The walk, one step an operation: what is known of a function's temporaries is a short list of places and values; each step is one theorem.
-/
namespace Go.Proofs.YtagbmfdheppmoaaGreatDoor.Sep
open Go.RowKit

abbrev Env := List (Nat × Value)
def look : Env → Nat → Value
  | [], _ => undef
  | p :: E, t => bif Nat.beq p.1 t then p.2 else look E t
def isIn : Env → Nat → Bool
  | [], _ => false
  | p :: E, t => bif Nat.beq p.1 t then true else isIn E t
def evalE (E : Env) : Operand → Value
  | .tmp t => look E t
  | .const v => v
  | .global g => .pointer (some ⟨g, 0, none⟩)
  | .func f => .func (.func f) #[] #[]
def putE (E : Env) : Option Tmp → Value → Env
  | none, _ => E
  | some d, v => (d, v) :: E

structure Has (a : Act) (N : Nat) (E : Env) : Prop where
  size : a.tmps.size = N
  defers : a.defers = []
  get : ∀ t, isIn E t = true → a.tmps[t]? = some (look E t)

theorem Has.getD {a : Act} {N : Nat} {E : Env} (h : Has a N E) {t : Nat} (i : isIn E t = true) : a.tmps.getD t undef = look E t := by
  have := h.get t i
  simp only [Array.getD_eq_getD_getElem?, this, Option.getD_some]
theorem Has.eval {a : Act} {N : Nat} {E : Env} (h : Has a N E) {x : Operand} (i : ∀ t, x = .tmp t → isIn E t = true) : a.eval x = evalE E x := by
  cases x with
  | tmp t => exact h.getD (i t rfl)
  | _ => rfl
theorem Has.put {a : Act} {N : Nat} {E : Env} (h : Has a N E) (d : Option Tmp) (v : Value) (hd : ∀ t, d = some t → t < N) : Has (a.put d v) N (putE E d v) := by
  cases d with
  | none => exact h
  | some d =>
    refine ⟨by simp [Act.put, h.size], h.defers, fun t i => ?_⟩
    have hdl := hd d rfl
    simp only [putE, isIn, look, Act.put] at *
    by_cases e : d = t
    · subst e
      simp [h.size, hdl]
    · have hb : Nat.beq d t = false := by
        cases hq : Nat.beq d t with
        | false => rfl
        | true => exact absurd (Nat.eq_of_beq_eq_true hq) e
      simp only [hb, cond_false] at i ⊢
      rw [Array.getElem?_setIfInBounds_ne e]
      exact h.get t i
def keepE (E : Env) (l : List Nat) : Env := l.map fun t => (t, look E t)
theorem isIn_keep {E : Env} {l : List Nat} {t : Nat} (h : isIn (keepE E l) t = true) : t ∈ l ∧ look (keepE E l) t = look E t := by
  induction l with
  | nil => simp [keepE, isIn] at h
  | cons k l ih =>
    simp only [keepE, List.map_cons, isIn, look] at *
    cases hb : Nat.beq k t with
    | true =>
      have := Nat.eq_of_beq_eq_true hb
      subst this
      exact ⟨by simp, by simp⟩
    | false =>
      simp only [hb, cond_false] at h ⊢
      exact ⟨by simp [(ih h).1], (ih h).2⟩
theorem Has.keep {a : Act} {N : Nat} {E : Env} (h : Has a N E) (l : List Nat) (hl : (l.all fun t => isIn E t) = true) : Has a N (keepE E l) := by
  refine ⟨h.size, h.defers, fun t i => ?_⟩
  have := isIn_keep i
  rw [this.2]
  exact h.get t (List.all_eq_true.1 hl t this.1)

/-- All that the operation looks at is known, and it is no select. -/
def covers (E : Env) (o : Oper) (N : Nat) : Bool :=
  (o.op.operands.toList.all fun | .tmp t => isIn E t | _ => true) && (match o.op with | .select _ _ => false | _ => true) && (match o.dst with | some d => Nat.blt d N | none => true)
/-- Whether the operation is carried out, as far as it is known. -/
def wants (E : Env) (ops : Array Oper) (o : Oper) : Option Bool :=
  match o.guard with
  | none => some true
  | some (j, b) => match (ops[j]?).bind (·.dst) with
    | some d => bif isIn E d then (match look E d with | .bool c => some (c == b) | _ => some false) else none
    | none => none

theorem covers_eval {E : Env} {o : Oper} {N : Nat} {a : Act} (h : Has a N E) (c : covers E o N = true) : execOp a.eval o = execOp (evalE E) o := by
  simp only [covers, Bool.and_eq_true] at c
  refine execOp_congr o (fun cs b e => by rw [e] at c; simp at c) fun x hx => h.eval fun t e => ?_
  have := List.all_eq_true.1 c.1.1 x (Array.mem_toList_iff.2 hx)
  subst e
  exact this
theorem covers_dst {E : Env} {o : Oper} {N : Nat} (c : covers E o N = true) : ∀ t, o.dst = some t → t < N := by
  intro t e
  simp only [covers, Bool.and_eq_true, e] at c
  simpa using c.2
theorem wants_eq {E : Env} {ops : Array Oper} {o : Oper} {N : Nat} {a : Act} {b : Bool} (h : Has a N E) (c : wants E ops o = some b) : Region.wanted o (yielded ops a.tmps) = b := by
  simp only [wants] at c
  unfold Region.wanted
  cases hg : o.guard with
  | none => rw [hg] at c; simpa using c
  | some g =>
    obtain ⟨j, want⟩ := g
    rw [hg] at c
    simp only at c ⊢
    cases hd : (ops[j]?).bind (·.dst) with
    | none => rw [hd] at c; simp at c
    | some d =>
      rw [hd] at c
      simp only at c
      cases hi : isIn E d with
      | false => rw [hi] at c; simp at c
      | true =>
        rw [hi] at c
        simp only [cond_true] at c
        have := h.get d hi
        unfold yielded
        rw [hd]
        simp only [Option.bind_some, this]
        cases hv : look E d with
        | bool x => rw [hv] at c; simp only [Option.some.injEq] at c; subst c; cases x <;> cases want <;> rfl
        | _ => rw [hv] at c; simp only [Option.some.injEq] at c; subst c; rfl

section
variable {P : Program} {ops : Array Oper} {Q : Exit → Act → World → Prop} {K : Act → World → Prop} {a : Act} {w W : World} {L : List Chunk} {rest : List Oper} {o : Oper} {N : Nat} {E : Env} {S : World → Prop}

/-! ### operations one behind the other -/
theorem st_val (v : Value) (ha : Has a N E) (hB : (covers E o N && (wants E ops o == some true)) = true) (hr : (execOp (evalE E) o).run P w = .ok (.value v) w)
    (h : ∀ a, Has a N (putE E o.dst v) → wpList P ops Q rest a w) : wpList P ops Q (o :: rest) a w := by
  simp only [Bool.and_eq_true, beq_iff_eq] at hB
  unfold wpList
  rw [if_pos (wants_eq ha hB.2)]
  refine .inl ?_
  unfold Oper.wp
  rw [covers_eval ha hB.1, hr]
  exact h _ (ha.put _ _ (covers_dst hB.1))
theorem st_pass (ha : Has a N E) (hB : (covers E { o with op := .alloc 0 } N && (wants E ops o == some false)) = true)
    (h : ∀ a, Has a N (putE E o.dst undef) → wpList P ops Q rest a w) : wpList P ops Q (o :: rest) a w := by
  simp only [Bool.and_eq_true, beq_iff_eq] at hB
  unfold wpList
  rw [if_neg (by rw [wants_eq ha hB.2]; simp)]
  exact h _ (ha.put _ _ (covers_dst (o := { o with op := .alloc 0 }) hB.1))
/-- An operation that goes on in another world. -/
theorem st_run (v : Value) (w1 : World) (ha : Has a N E) (hB : (covers E o N && (wants E ops o == some true)) = true) (hr : (execOp (evalE E) o).run P w = .ok (.value v) w1)
    (h : ∀ a, Has a N (putE E o.dst v) → wpList P ops Q rest a w1) : wpList P ops Q (o :: rest) a w := by
  simp only [Bool.and_eq_true, beq_iff_eq] at hB
  unfold wpList
  rw [if_pos (wants_eq ha hB.2)]
  refine .inl ?_
  unfold Oper.wp
  rw [covers_eval ha hB.1, hr]
  exact h _ (ha.put _ _ (covers_dst hB.1))
theorem st_do (w1 : World) (ha : Has a N E) (hB : (covers E o N && (wants E ops o == some true)) = true) (hr : (execOp (evalE E) o).run P w = .ok .skip w1)
    (h : ∀ a, Has a N (putE E o.dst undef) → wpList P ops Q rest a w1) : wpList P ops Q (o :: rest) a w := by
  simp only [Bool.and_eq_true, beq_iff_eq] at hB
  unfold wpList
  rw [if_pos (wants_eq ha hB.2)]
  refine .inl ?_
  unfold Oper.wp
  rw [covers_eval ha hB.1, hr]
  exact h _ (ha.put _ _ (covers_dst hB.1))
theorem st_call {f : FuncId} {args : Array Value} {R : Ending → World → Prop} (ha : Has a N E) (hB : (covers E o N && (wants E ops o == some true)) = true) (hr : (execOp (evalE E) o).run P w = .ok (.enter f args) w)
    (hC : Calls P f args w R) (h : ∀ e w', R e w' → ∃ v, e = .returned v ∧ ∀ a, Has a N (putE E o.dst v) → wpList P ops Q rest a w') : wpList P ops Q (o :: rest) a w := by
  simp only [Bool.and_eq_true, beq_iff_eq] at hB
  unfold wpList
  rw [if_pos (wants_eq ha hB.2)]
  refine .inl ?_
  unfold Oper.wp
  rw [covers_eval ha hB.1, hr]
  refine Calls.mono hC fun e w' hR => ?_
  obtain ⟨v, rfl, hk⟩ := h e w' hR
  exact hk _ (ha.put _ _ (covers_dst hB.1))

/-! ### the head of a statement whose order is open -/
theorem hd_val {n g f i : Nat} {listed : Array Bool} (v : Value) (ha : Has a N E) (hi : ops[i]? = some o)
    (hR : (Region.noSelect ops && decide (n < ops.size) && Region.sinkB .any ops n && Region.chainB .any ops n && decide (i < n) && Region.free .any ops listed i && (Region.ready .any ops listed).contains i) = true)
    (hQ : ∀ c a w, Q (.panic c) (a.put o.dst v) w → Q (.panic c) a w) (hB : (covers E o N && (wants E ops o == some true)) = true) (hr : ∀ w, S w → (execOp (evalE E) o).run P w = .ok (.value v) w) (hS : S w)
    (h : ∀ a, Has a N (putE E o.dst v) → Head P .any ops Q S n g f (listed.setIfInBounds i true) a w) : Head P .any ops Q S n g (f + 1) listed a w := by
  simp only [Bool.and_eq_true, beq_iff_eq] at hB
  exact Head.take hi hR hQ (.inl ⟨wants_eq ha hB.2, fun w hw => by rw [covers_eval ha hB.1]; exact hr w hw⟩) hS (h _ (ha.put _ _ (covers_dst hB.1)))
theorem hd_pass {n g f i : Nat} {listed : Array Bool} (ha : Has a N E) (hi : ops[i]? = some o)
    (hR : (Region.noSelect ops && decide (n < ops.size) && Region.sinkB .any ops n && Region.chainB .any ops n && decide (i < n) && Region.free .any ops listed i && (Region.ready .any ops listed).contains i) = true)
    (hQ : ∀ c a w, Q (.panic c) (a.put o.dst undef) w → Q (.panic c) a w) (hB : (covers E { o with op := .alloc 0 } N && (wants E ops o == some false)) = true) (hS : S w)
    (h : ∀ a, Has a N (putE E o.dst undef) → Head P .any ops Q S n g f (listed.setIfInBounds i true) a w) : Head P .any ops Q S n g (f + 1) listed a w := by
  simp only [Bool.and_eq_true, beq_iff_eq] at hB
  exact Head.take hi hR hQ (.inr ⟨wants_eq ha hB.2, rfl⟩) hS (h _ (ha.put _ _ (covers_dst (o := { o with op := .alloc 0 }) hB.1)))
theorem hd_run {n g f i : Nat} {listed : Array Bool} (v : Value) (w1 : World) (ha : Has a N E) (hi : ops[i]? = some o)
    (hR : (decide (Region.ready .any ops listed = [i]) && decide (i < n)) = true)
    (hB : (covers E o N && (wants E ops o == some true)) = true) (hr : (execOp (evalE E) o).run P w = .ok (.value v) w1) (hS : S w1)
    (h : ∀ a, Has a N (putE E o.dst v) → Head P .any ops Q S n g f (listed.setIfInBounds i true) a w1) : Head P .any ops Q S n g (f + 1) listed a w := by
  simp only [Bool.and_eq_true, beq_iff_eq] at hB
  refine Head.only hi (by simpa using hR) ?_
  rw [if_pos (wants_eq ha hB.2)]
  unfold Oper.wp
  rw [covers_eval ha hB.1, hr]
  exact ⟨hS, h _ (ha.put _ _ (covers_dst hB.1))⟩
theorem hd_do {n g f i : Nat} {listed : Array Bool} (w1 : World) (ha : Has a N E) (hi : ops[i]? = some o)
    (hR : (decide (Region.ready .any ops listed = [i]) && decide (i < n)) = true)
    (hB : (covers E o N && (wants E ops o == some true)) = true) (hr : (execOp (evalE E) o).run P w = .ok .skip w1) (hS : S w1)
    (h : ∀ a, Has a N (putE E o.dst undef) → Head P .any ops Q S n g f (listed.setIfInBounds i true) a w1) : Head P .any ops Q S n g (f + 1) listed a w := by
  simp only [Bool.and_eq_true, beq_iff_eq] at hB
  refine Head.only hi (by simpa using hR) ?_
  rw [if_pos (wants_eq ha hB.2)]
  unfold Oper.wp
  rw [covers_eval ha hB.1, hr]
  exact ⟨hS, h _ (ha.put _ _ (covers_dst hB.1))⟩
theorem hd_call {n g f i : Nat} {listed : Array Bool} {F : FuncId} {args : Array Value} {R : Ending → World → Prop} (ha : Has a N E) (hi : ops[i]? = some o)
    (hR : (decide (Region.ready .any ops listed = [i]) && decide (i < n)) = true)
    (hB : (covers E o N && (wants E ops o == some true)) = true) (hr : (execOp (evalE E) o).run P w = .ok (.enter F args) w)
    (hC : Calls P F args w R) (h : ∀ e w', R e w' → ∃ v, e = .returned v ∧ S w' ∧ ∀ a, Has a N (putE E o.dst v) → Head P .any ops Q S n g f (listed.setIfInBounds i true) a w') : Head P .any ops Q S n g (f + 1) listed a w := by
  simp only [Bool.and_eq_true, beq_iff_eq] at hB
  refine Head.only hi (by simpa using hR) ?_
  rw [if_pos (wants_eq ha hB.2)]
  unfold Oper.wp
  rw [covers_eval ha hB.1, hr]
  refine Calls.mono hC fun e w' hR => ?_
  obtain ⟨v, rfl, hs, hk⟩ := h e w' hR
  exact ⟨hs, hk _ (ha.put _ _ (covers_dst hB.1))⟩
theorem hd_idle {n g f i : Nat} {listed : Array Bool} (ha : Has a N E) (hi : ops[i]? = some o)
    (hR : (decide (Region.ready .any ops listed = [i]) && decide (i < n)) = true)
    (hB : (covers E { o with op := .alloc 0 } N && (wants E ops o == some false)) = true) (hS : S w)
    (h : ∀ a, Has a N (putE E o.dst undef) → Head P .any ops Q S n g f (listed.setIfInBounds i true) a w) : Head P .any ops Q S n g (f + 1) listed a w := by
  simp only [Bool.and_eq_true, beq_iff_eq] at hB
  refine Head.only hi (by simpa using hR) ?_
  rw [if_neg (by rw [wants_eq ha hB.2]; simp)]
  exact ⟨hS, h _ (ha.put _ _ (covers_dst (o := { o with op := .alloc 0 }) hB.1))⟩

/-! ### control -/
theorem wp_if {c : Operand} {x y : Code} {t : Bool} (ha : Has a N E) (hc : (match c with | .tmp t => isIn E t | _ => true) = true) (hv : evalE E c = .bool t)
    (h : if t = true then x.wp P Q a w else y.wp P Q a w) : (Code.cond c x y).wp P Q a w := by
  have he : a.eval c = .bool t := (ha.eval fun u e => by subst e; exact hc).trans hv
  cases t
  · exact wp_cond_false he (by simpa using h)
  · exact wp_cond_true he (by simpa using h)

/-- From a function's call to its body. -/
theorem enters {f : FuncId} {fn : Func} {c : Code} {args : Array Value} {R : Ending → World → Prop} (E : Env) (hf : P.funcs[f]? = some fn) (hb : fn.body = some c) (hn : fn.ntmps = N) (hs : args.size ≤ N)
    (hE : ∀ t, isIn E t = true → args[t]? = some (look E t)) (h : ∀ a, Has a N E → c.wp P (bodyPost P fn R) a w) : Calls P f args w R := by
  refine calls_of_wp hf hb (h _ ⟨?_, rfl, fun t i => ?_⟩)
  · simp [hn]; omega
  · have := hE t i
    have hlt := (Array.getElem?_eq_some_iff.1 this).1
    rw [Array.getElem?_append_left hlt]
    exact this
def argsE (l : List Value) : Env := (List.range l.length).zip l
theorem isIn_zip : ∀ (l : List Value) (k t : Nat), isIn ((List.range' k l.length).zip l) t = true → k ≤ t ∧ l[t - k]? = some (look ((List.range' k l.length).zip l) t) := by
  intro l
  induction l with
  | nil => intro k t h; simp [isIn] at h
  | cons v l ih =>
    intro k t h
    simp only [List.length_cons, List.range'_succ, List.zip_cons_cons, isIn, look] at h ⊢
    cases hb : Nat.beq k t with
    | true =>
      have := Nat.eq_of_beq_eq_true hb
      subst this
      simp
    | false =>
      simp only [hb, cond_false] at h ⊢
      have := ih (k + 1) t h
      refine ⟨by omega, ?_⟩
      rw [show t - k = (t - (k + 1)) + 1 by omega, List.getElem?_cons_succ]
      exact this.2
theorem enter_args {f : FuncId} {fn : Func} {c : Code} {l : List Value} {R : Ending → World → Prop} (hf : P.funcs[f]? = some fn) (hb : fn.body = some c) (hn : fn.ntmps = N) (hs : l.length ≤ N)
    (h : ∀ a, Has a N (argsE l) → c.wp P (bodyPost P fn R) a w) : Calls P f l.toArray w R := by
  refine enters (argsE l) hf hb hn (by simpa using hs) (fun t i => ?_) h
  have := isIn_zip l 0 t (by rw [argsE, List.range_eq_range'] at i; exact i)
  rw [argsE, List.range_eq_range']
  simpa using this.2

theorem ret_with {fn : Func} {R : Ending → World → Prop} {v : Value} (ha : Has a N E) (hr : (results fn a.tmps).run P w = .ok v w) (h : R (.returned v) w) : bodyPost P fn R .ret a w := ⟨ha.defers, v, hr, h⟩
theorem end_with {fn : Func} {R : Ending → World → Prop} {v : Value} (ha : Has a N E) (hr : (results fn a.tmps).run P w = .ok v w) (h : R (.returned v) w) : bodyPost P fn R .normal a w := ⟨ha.defers, v, hr, h⟩

/-- What a result's place holds at the end. -/
def resIs (P : Program) (E : Env) (w : World) : ResultVar → Value → Prop
  | .tmp t, v => isIn E t = true ∧ look E t = v
  | .cell t ty, v => isIn E t = true ∧ ∃ ad, look E t = .pointer (some ad) ∧ (loadVar ty ad).run P w = .ok v w
def resV (tmps : Array Value) : ResultVar → Sem Value
  | .tmp t => pure (tmps.getD t undef)
  | .cell t ty => do loadVar ty (← asAddr (tmps.getD t undef))
theorem results_eq (fn : Func) (tmps : Array Value) : results fn tmps = (do let vs ← fn.results.mapM (resV tmps); pure (if h : vs.size = 1 then vs[0] else .tuple vs)) := by
  unfold results
  congr 1
theorem resIs_run {r : ResultVar} {v : Value} (ha : Has a N E) (h : resIs P E w r v) : (resV a.tmps r).run P w = .ok v w := by
  cases r with
  | tmp t =>
    have e := (ha.getD h.1).trans h.2
    simp [resV, ← e]
  | cell t ty =>
    obtain ⟨i, ad, e, hl⟩ := h
    have e2 := (ha.getD i).trans e
    simp [resV, e2, asAddr, hl]
theorem results_0 {fn : Func} {w : World} (h : fn.results = #[]) (tmps : Array Value) : (results fn tmps).run P w = .ok (.tuple #[]) w := by simp [results, h]
theorem results_1 {fn : Func} {r : ResultVar} {v : Value} (h : fn.results = #[r]) (ha : Has a N E) (h1 : resIs P E w r v) : (results fn a.tmps).run P w = .ok v w := by
  rw [results_eq]
  simp [h, resIs_run ha h1]
theorem results_2 {fn : Func} {r1 r2 : ResultVar} {v1 v2 : Value} (h : fn.results = #[r1, r2]) (ha : Has a N E) (h1 : resIs P E w r1 v1) (h2 : resIs P E w r2 v2) : (results fn a.tmps).run P w = .ok (.tuple #[v1, v2]) w := by
  rw [results_eq]
  simp [h, resIs_run ha h1, resIs_run ha h2]
theorem results_3 {fn : Func} {r1 r2 r3 : ResultVar} {v1 v2 v3 : Value} (h : fn.results = #[r1, r2, r3]) (ha : Has a N E) (h1 : resIs P E w r1 v1) (h2 : resIs P E w r2 v2) (h3 : resIs P E w r3 v3) : (results fn a.tmps).run P w = .ok (.tuple #[v1, v2, v3]) w := by
  rw [results_eq]
  simp [h, resIs_run ha h1, resIs_run ha h2, resIs_run ha h3]

/-! ### memory -/
theorem load_one {t : TypeId} {g o : Nat} {cs : List Value} {t' : TypeId} {v : Value} (j : Nat) (s : St W L w) (hj : L[j]? = some (.blk g cs t')) (hg : (isAgg t).run P w = .ok false w) (hv : cs[o]? = some v) :
    (loadVar t ⟨g, o, none⟩).run P w = .ok v w := by
  have hc := (s.at_ hj).1.cell o
  rw [hv] at hc
  simp [loadVar, hg, load, Sem.run, hc]
theorem load_agg {t : TypeId} {g o n : Nat} {cs : List Value} {t' : TypeId} (j : Nat) (vs : List Value) (s : St W L w) (hj : L[j]? = some (.blk g cs t')) (hg : (isAgg t).run P w = .ok true w) (hz : (sizeOf t).run P w = .ok n w) (hv : cs.extract o (o + n) = vs) (hn : o + n ≤ cs.length) :
    (loadVar t ⟨g, o, none⟩).run P w = .ok (.agg vs.toArray) w := by
  have hc := run_loadCells_at (P := P) g o cs (s.at_ hj).1.cell n hn
  rw [hv] at hc
  simp [loadVar, hg, hz, hc]
theorem run_load {t : TypeId} {x : Operand} {ad : Addr} {v : Value} (ho : o.op = .load t x) (hx : evalE E x = .pointer (some ad)) (hl : (loadVar t ad).run P w = .ok v w) : (execOp (evalE E) o).run P w = .ok (.value v) w := by
  simp [execOp, ho, Instr.loadAt, Instr.sureAddr, hx, hl]
theorem run_box {t : TypeId} {x : Operand} {cs : List Value} (ho : o.op = .box t x) (hx : (evalE E x).cells = cs.toArray) :
    (execOp (evalE E) o).run P w = .ok (.value (.pointer (some ⟨w.heap.size, 0, none⟩))) (w.alloc (.cells cs.toArray t)) := by
  simp [execOp, ho, Instr.box, newVar, newRow, hx]
theorem run_alloc {t : TypeId} {z : Value} {cs : List Value} (ho : o.op = .alloc t) (hz : (zeroValue t).run P w = .ok z w) (hc : z.cells = cs.toArray) :
    (execOp (evalE E) o).run P w = .ok (.value (.pointer (some ⟨w.heap.size, 0, none⟩))) (w.alloc (.cells cs.toArray t)) := by
  simp [execOp, ho, Instr.alloc, newVar, newRow, hc, hz]
theorem run_store {t : TypeId} {x y : Operand} {g of_ : Nat} {cs : List Value} {t' : TypeId} {vs : List Value} {n : Nat} (j : Nat) (s : St W L w) (hj : L[j]? = some (.blk g cs t')) (ho : o.op = .store t x y) (hx : evalE E x = .pointer (some ⟨g, of_, none⟩)) (hy : (evalE E y).cells = vs.toArray)
    (hz : (sizeOf t).run P w = .ok n w) (hl : vs.length = n) (h1 : ∀ v ∈ vs, v.oneCell' = true) (hn : of_ + vs.length ≤ cs.length) :
    (execOp (evalE E) o).run P w = .ok .skip (w.setRow g (putAt cs of_ vs).toArray) := by
  have s1 := s.at_ hj
  have hr := run_storeCells_at (P := P) g of_ t' vs 0 cs.toArray w s1.1.blk (by simpa using hn) h1
  have e : w.setRow g (putAt cs of_ vs).toArray = w.setRow g (List.take (of_ + 0) cs.toArray.toList ++ vs ++ List.drop (of_ + 0 + vs.length) cs.toArray.toList).toArray := by rw [putAt_eq _ _ _ hn]; rfl
  rw [e]
  subst hl
  have hr' : (storeCells ⟨g, of_, none⟩ vs).run P w = _ := hr
  simp only [execOp, ho, Instr.storeAt, Instr.sureAddr, storeVar, hx]
  simp [hy, hz, hr']
theorem St.put {g of_ : Nat} {cs : List Value} {t' : TypeId} {vs : List Value} (j : Nat) (s : St W L w) (hj : L[j]? = some (.blk g cs t')) : St W (L.set j (.blk g (putAt cs of_ vs) t')) (w.setRow g (putAt cs of_ vs).toArray) :=
  ((s.at_ hj).setRow (putAt cs of_ vs)).perm (perm_set hj _)
end
end Go.Proofs.YtagbmfdheppmoaaGreatDoor.Sep
