import Derived.Test.YtagbmfdheppmoaaGreatDoorSepJ
/-
  Loops over functions: what the function that is ranged over promises, what a round promises, and the loop.
-/
namespace Go.Proofs.YtagbmfdheppmoaaGreatDoor.Sep.J
open Go.RowKit
section
variable {P : Program} {Q : Exit → Act → World → Prop} {a : Act} {w W : World} {L : List Chunk} {N : Nat} {E : Env} {ds : List Deferred} {ro : Option Nat} {m : Nat}
/-- A block that is no row. -/
def objC (l : Nat) (o : Obj) : Chunk := .oth fun h => h l = some o
theorem objC_heap {l : Nat} {o : Obj} (s : Sat (objC l o :: L) w) : w.heap[l]? = some o := by
  obtain ⟨h1, h2, a, s1, s2, x, y⟩ := s
  exact s1 _ _ x
theorem allocObj (s : St W L w) (o : Obj) : St W (objC w.heap.size o :: L) (w.alloc o) := by
  refine ⟨SatH.new s.1 (hp_alloc_sub _ _) (k1 := fun k => if k = w.heap.size then some o else none) (by simp [Chunk.a, objC]) ?_ ?_, s.2.trans ⟨rfl, rfl, rfl, by simp, Nat.le_refl _⟩⟩
  · intro k o' e
    by_cases hk : k = w.heap.size
    · subst hk; simp at e; subst e
      show (w.heap.push _)[w.heap.size]? = _
      simp
    · simp [hk] at e
  · intro k
    by_cases hk : k = w.heap.size
    · right; subst hk; simp [hp]
    · left; simp [hk]
theorem putObj {l : Nat} {o : Obj} (s : St W (objC l o :: L) w) (o' : Obj) : St W (objC l o' :: L) (w.putObj l o') := by
  have hh := objC_heap s.1
  have hl := (Array.getElem?_eq_some_iff.1 hh).1
  refine ⟨SatH.put s.1 fun h1 s1 x => ⟨fun k => if k = l then some o' else none, by simp [Chunk.a, objC], ?_, ?_⟩, s.2.trans ⟨rfl, rfl, rfl, by simp, Nat.le_refl _⟩⟩
  · intro k o2 e
    by_cases hk : k = l
    · subst hk; simp at e; subst e; exact World.putObj_heap_same hl
    · simp [hk] at e
  · intro k e hs
    have x : h1 l = some o := x
    have hk : k ≠ l := by rintro rfl; rw [x] at e; cases e
    exact ⟨by simp [hk], World.putObj_heap_other hk⟩
def mark (D : Nat) : Deferred := { target := .collected D, args := #[] }
/-- What a function that is ranged over promises: it asks for a round for each of ys, one behind the other; C: what it looks at. -/
def Iter (P : Program) (gf : FuncId) (binds : List Value) (C : List Chunk) (ys : List (List Value)) : Prop :=
  ∀ (m l : Nat) (r : Loop) (W : World) (G : Type) (p : Nat → G → Prop) (LI : Nat → G → List Chunk) (X : World → Prop) (w : World) (g0 : G), (∀ y ∈ ys, y.length = r.params.size) →
    (∀ i y g w, ys[i]? = some y → p i g → St W (C ++ (objC l (.loop r) :: LI i g)) w →
      RoundIn (FW none) m P l r.fn ((r.params.zip y.toArray).foldl (fun t (q, a) => t.setIfInBounds q a) r.tmps) r.assign r.body w
        (fun e w' => (e = .returned (.bool true) ∧ ∃ g', p (i + 1) g' ∧ St W (C ++ (objC l (.loop r) :: LI (i + 1) g')) w') ∨ (e = .returned (.bool false) ∧ X w'))) →
    p 0 g0 → St W (C ++ (objC l (.loop r) :: LI 0 g0)) w →
    CallsIn (FW none) (m + 1) P gf (#[Value.func (.yield l) #[] #[]] ++ binds.toArray) w (fun e w' => (∃ v, e = .returned v) ∧ ((∃ g, p ys.length g ∧ St W (C ++ (objC l (.loop r) :: LI ys.length g)) w') ∨ X w'))
def zipE : List Nat → List Value → Env → Env
  | q :: ps, y :: ys, E => zipE ps ys ((q, y) :: E)
  | _, _, E => E
theorem has_params : ∀ {ps : List Nat} {ys : List Value} {t : Array Value} {E : Env}, Has [] { tmps := t, defers := [] } N E → (∀ q ∈ ps, q < N) → Has [] { tmps := (ps.zip ys).foldl (fun t (q, a) => t.setIfInBounds q a) t, defers := [] } N (zipE ps ys E)
  | [], ys, t, E, h, _ => by simpa [zipE] using h
  | q :: ps, [], t, E, h, _ => by simpa [zipE] using h
  | q :: ps, y :: ys, t, E, h, hq => by
    simp only [List.zip_cons_cons, List.foldl_cons, zipE]
    refine has_params ?_ (fun q' h' => hq q' (List.mem_cons_of_mem _ h'))
    have := h.put (some q) y (fun t e => by cases e; exact hq q (List.mem_cons_self ..))
    exact this
theorem zip_params (ps : List Nat) (y : List Value) (t : Array Value) : (ps.toArray.zip y.toArray).foldl (fun t (q, a) => t.setIfInBounds q a) t = (ps.zip y).foldl (fun t (q, a) => t.setIfInBounds q a) t := by
  simp
/-- How a round may end. -/
def RP {G GX : Type} (W : World) (C : List Chunk) (p : Nat → G → Prop) (LI : Nat → G → List Chunk) (pX : Code → GX → Prop) (LX : Code → GX → List Chunk) (i : Nat) (T : List Chunk) : Exit → Act → World → Prop
  | .normal, _, w => ∃ g', p (i + 1) g' ∧ St W (C ++ (LI (i + 1) g' ++ T)) w
  | .exit id, _, w => ∃ gx, pX (.exit id) gx ∧ St W (LX (.exit id) gx ++ T) w
  | .ret, _, w => ∃ gx, pX .ret gx ∧ St W (LX .ret gx ++ T) w
  | _, _, _ => False
theorem front_of {A B : List Chunk} {x : Chunk} (s : St W (A ++ (B ++ x :: L)) w) : St W (x :: (A ++ (B ++ L))) w := s.perm (by
  have h1 : (B ++ x :: L).Perm (x :: (B ++ L)) := List.perm_middle
  exact (h1.append_left A).trans List.perm_middle)
theorem back_of {A B : List Chunk} {x : Chunk} (s : St W (x :: (A ++ (B ++ L))) w) : St W (A ++ (B ++ x :: L)) w := s.perm (by
  have h1 : (B ++ x :: L).Perm (x :: (B ++ L)) := List.perm_middle
  exact ((h1.append_left A).trans List.perm_middle).symm)
theorem front_1 {A : List Chunk} {x : Chunk} (s : St W (A ++ x :: L) w) : St W (x :: (A ++ L)) w := s.perm List.perm_middle
theorem back_1 {A : List Chunk} {x : Chunk} (s : St W (x :: (A ++ L)) w) : St W (A ++ x :: L) w := s.perm List.perm_middle.symm
/-- The loop. C: what the function looks at; LI i g: what else there is ahead of round i; T: the rest. -/
theorem wp_range {G GX : Type} {g : Operand} {ps : List Nat} {sg bd : Code} {gf : FuncId} {binds : List Value} {C : List Chunk} {ys : List (List Value)} (hI : Iter P gf binds C ys) (p : Nat → G → Prop) (LI : Nat → G → List Chunk) (pX : Code → GX → Prop) (LX : Code → GX → List Chunk) (g0 : G)
    (ha : Has ds a N E) (hc : (match g with | .tmp t => isIn E t | _ => true) = true) (hg : evalE E g = .func (.func gf) #[] binds.toArray) (hen : ∀ args w, (callFunc gf args).run P w = .ok (.enter gf args) w) (hy : ∀ y ∈ ys, y.length = ps.length) (hps : (ps.all fun q => Nat.blt q N) = true)
    (s : St W (C ++ (LI 0 g0 ++ L)) w) (h0 : p 0 g0)
    (hbody : ∀ (l : Nat) (T : List Chunk) (i : Nat) (y : List Value) (g : G) (a : Act) (w : World), ys[i]? = some y → p i g → St W (C ++ (LI i g ++ T)) w → Has [] a N (zipE ps y E) →
      sg.wpIn (FW (some l)) m P (Exit.then (fun a1 w1 => ∃ C1, St W (C1 ++ T) w1 ∧ ∀ T' w2, St W (C1 ++ T') w2 → bd.wpIn (FW (some l)) m P (RP W C p LI pX LX i T') a1 w2) (fun _ _ _ => False)) a w)
    (hdone : ∀ (D : Nat) (g : G) (a : Act) (w : World), p ys.length g → St W (C ++ (LI ys.length g ++ objC D (.deferred (some [])) :: L)) w → Has (mark D :: ds) a N E → Q .normal a w)
    (hexit : ∀ (c : Code) (D : Nat) (gx : GX) (a : Act) (w : World), (c = .ret ∨ ∃ id, c = .exit id) → pX c gx → St W (LX c gx ++ objC D (.deferred (some [])) :: L) w → Has (mark D :: ds) a N E → c.wpIn (FW none) (m + 2) P Q a w) :
    (Code.rangeFunc g ps.toArray sg bd).wpIn (FW none) (m + 2) P Q a w := by
  refine wpIn_rangeFunc fun fn _ => ?_
  have hev : a.eval g = .func (.func gf) #[] binds.toArray := (ha.bare.eval (a := { a with defers := [] }) fun u e => by subst e; exact hc).trans hg
  have s1 := allocObj s (.deferred (some []))
  let r (st : LoopState) (pe : Option Code) : Loop := { state := st, pending := pe, fn := fn, tmps := a.tmps, params := ps.toArray, assign := sg, body := bd, defers := w.heap.size }
  have s2 := allocObj s1 (.loop (r .ready none))
  have hsz : (w.alloc (.deferred (some []))).heap.size = w.heap.size + 1 := by simp
  rw [hsz] at s2
  generalize hD : w.heap.size = D at s1 s2
  have hps' : ∀ q ∈ ps, q < N := fun q hq => by have := List.all_eq_true.1 hps q hq; simpa using this
  have haE : Has [] { tmps := a.tmps, defers := [] } N E := ⟨ha.size, rfl, ha.get⟩
  have hr0 : ∀ i y g' w1, ys[i]? = some y → p i g' → St W (C ++ (objC (D + 1) (.loop (r .ready none)) :: (LI i g' ++ objC D (.deferred (some [])) :: L))) w1 →
      RoundIn (FW none) m P (D + 1) (r .ready none).fn (((r .ready none).params.zip y.toArray).foldl (fun t (q, a) => t.setIfInBounds q a) (r .ready none).tmps) (r .ready none).assign (r .ready none).body w1
        (fun e w' => (e = .returned (.bool true) ∧ ∃ g', p (i + 1) g' ∧ St W (C ++ (objC (D + 1) (.loop (r .ready none)) :: (LI (i + 1) g' ++ objC D (.deferred (some [])) :: L))) w') ∨ (e = .returned (.bool false) ∧ ∃ c gx, (c = .ret ∨ ∃ id, c = Code.exit id) ∧ pX c gx ∧ St W (objC (D + 1) (.loop (r .done (some c))) :: (LX c gx ++ objC D (.deferred (some [])) :: L)) w')) := by
    intro i y g' w1 hi hp s3
    have hlen := hy y (List.mem_of_getElem? hi)
    refine roundIn_of_wpIn trivial ?_
    have e1 : ((r .ready none).params.zip y.toArray).foldl (fun t (q, a) => t.setIfInBounds q a) (r .ready none).tmps = (ps.zip y).foldl (fun t (q, a) => t.setIfInBounds q a) a.tmps := zip_params ps y a.tmps
    rw [e1]
    have s4 := front_1 s3
    refine wpIn_mono (hbody (D + 1) (objC (D + 1) (.loop (r .ready none)) :: objC D (.deferred (some [])) :: L) i y g' _ w1 hi hp ?_ (has_params haE hps')) fun e1 a1 w2 h => ?_
    · exact back_of s4
    · cases e1 with
      | normal =>
        obtain ⟨C1, s5, hb⟩ := h
        have s6 := front_1 s5
        have hh := objC_heap s6.1
        have s7 := putObj s6 (.loop { r .ready none with state := .busy })
        refine ⟨_, run_beginRound hh rfl, ?_⟩
        refine wpIn_mono (hb (objC (D + 1) (.loop { r .ready none with state := .busy }) :: objC D (.deferred (some [])) :: L) _ (back_1 s7)) fun e2 a2 w3 h2 => ?_
        cases e2 with
        | normal =>
          obtain ⟨g2, hp2, s8⟩ := h2
          have s9 := front_of s8
          have hh2 := objC_heap s9.1
          refine ⟨_, _, run_endRound none hh2, .inl ⟨rfl, g2, hp2, ?_⟩⟩
          exact back_1 (putObj s9 (.loop (r .ready none)))
        | exit id =>
          obtain ⟨gx, hp2, s8⟩ := h2
          have s9 := front_1 s8
          have hh2 := objC_heap s9.1
          exact ⟨_, _, run_endRound (some (.exit id)) hh2, .inr ⟨rfl, .exit id, gx, .inr ⟨id, rfl⟩, hp2, putObj s9 (.loop (r .done (some (.exit id))))⟩⟩
        | ret =>
          obtain ⟨gx, hp2, s8⟩ := h2
          have s9 := front_1 s8
          have hh2 := objC_heap s9.1
          exact ⟨_, _, run_endRound (some .ret) hh2, .inr ⟨rfl, .ret, gx, .inl rfl, hp2, putObj s9 (.loop (r .done (some .ret)))⟩⟩
        | goto t => exact h2.elim
        | panic c => exact h2.elim
        | outgrown => exact h2.elim
      | exit id => exact h
      | goto t => exact h
      | ret => exact h
      | panic c => exact h
      | outgrown => exact h
  have s3 : St W (C ++ (objC (D + 1) (.loop (r .ready none)) :: (LI 0 g0 ++ objC D (.deferred (some [])) :: L))) ((w.alloc (.deferred (some []))).alloc (.loop (r .ready none))) := by
    refine back_1 (L := LI 0 g0 ++ objC D (.deferred (some [])) :: L) ?_
    have := (show St W (objC (D + 1) (.loop (r .ready none)) :: objC D (.deferred (some [])) :: (C ++ (LI 0 g0 ++ L))) _ from s2)
    refine (this.perm ?_)
    refine List.Perm.cons _ ?_
    have h1 : (LI 0 g0 ++ objC D (.deferred (some [])) :: L).Perm (objC D (.deferred (some [])) :: (LI 0 g0 ++ L)) := List.perm_middle
    exact ((h1.append_left C).trans List.perm_middle).symm
  have key := hI m (D + 1) (r .ready none) W G p (fun i g => LI i g ++ objC D (.deferred (some [])) :: L) (fun w' => ∃ c gx, (c = .ret ∨ ∃ id, c = Code.exit id) ∧ pX c gx ∧ St W (objC (D + 1) (.loop (r .done (some c))) :: (LX c gx ++ objC D (.deferred (some [])) :: L)) w')
    ((w.alloc (.deferred (some []))).alloc (.loop (r .ready none))) g0 (fun y h => by simpa [r] using hy y h) hr0 h0 s3
  refine ⟨D + 1, [mark D], (w.alloc (.deferred (some []))).alloc (.loop (r .ready none)), { target := .fn (.func gf) binds.toArray, args := #[Value.func (.yield (D + 1)) #[] #[]] }, (w.alloc (.deferred (some []))).alloc (.loop (r .ready none)), gf, #[Value.func (.yield (D + 1)) #[] #[]] ++ binds.toArray, (w.alloc (.deferred (some []))).alloc (.loop (r .ready none)), ?_, ?_, fun _ _ => trivial, ?_, fun h => (by cases h), CallsIn.mono key fun e1 w2 hR => ?_⟩
  · have := run_enterLoop_outer (P := P) (w := w) fn a.tmps ps.toArray sg bd
    rw [hD] at this
    show (Instr.enterLoop fn a.tmps ps.toArray sg bd none).run P w = _
    simpa [r, hD, mark] using this
  · simp [resolve, hev]
    rfl
  · simp [invoke, hen]
  · obtain ⟨⟨v, rfl⟩, h⟩ := hR
    have haD : Has (mark D :: ds) { a with defers := [mark D] ++ a.defers } N E := ⟨ha.size, by show mark D :: a.defers = _; rw [ha.defers], ha.get⟩
    rcases h with ⟨g', hp, s3⟩ | ⟨c, gx, hcc, hp, s3⟩
    · have s4 := front_1 s3
      have hh := objC_heap s4.1
      have s5 := (putObj s4 (.loop { r .ready none with state := .exhausted })).tail
      exact ⟨none, _, run_endLoop hh (by simp [r]), hdone D g' _ _ hp s5 haD⟩
    · have hh := objC_heap s3.1
      have s5 := (putObj s3 (.loop { r .done (some c) with state := .exhausted })).tail
      exact ⟨some c, _, run_endLoop hh (by simp [r]), hexit c D gx _ _ hcc hp s5 haD⟩
/-! ### the ends of a function that has one such loop -/
theorem ret_with1 {fn : Func} {R : Ending → World → Prop} {v : Value} {D : Nat} (ha : Has [mark D] a N E) (s : St W (objC D (.deferred (some [])) :: L) w) (hr : ∀ w', St W L w' → (results fn a.tmps).run P w' = .ok v w') (h : ∀ w', St W L w' → R (.returned v) w') : bodyPostM (FW none) m P fn R .ret a w := by
  show LeavesInM _ _ _ _ _ _ a.defers _ _
  rw [ha.defers]
  have hh := objC_heap s.1
  have s2 := (putObj s (.deferred none)).tail
  exact ⟨by simp, .inl ⟨D, _, rfl, run_takeDeferred hh, v, hr _ s2, h _ s2⟩⟩
theorem end_with1 {fn : Func} {R : Ending → World → Prop} {v : Value} {D : Nat} (ha : Has [mark D] a N E) (s : St W (objC D (.deferred (some [])) :: L) w) (hr : ∀ w', St W L w' → (results fn a.tmps).run P w' = .ok v w') (h : ∀ w', St W L w' → R (.returned v) w') : bodyPostM (FW none) m P fn R .normal a w := ret_with1 (m := m) ha s hr h
end
end Go.Proofs.YtagbmfdheppmoaaGreatDoor.Sep.J
