import Derived.Test.YtfcbjcohepkkfaaGreatSepA
import Derived.Maps.OwnSet
import Derived.Scope
/-
  Maps that are owned: a block that holds a list of keys and values, each key once; what a look-up, a store, a delete, a length do there.
-/
namespace Go.Proofs.YtfcbjcohepkkfaaGreat.Sep
open Go.RowKit Go.Maps Go.MapKept
set_option linter.unusedVariables false
set_option linter.unusedSimpArgs false

section
variable {α β : Type} [DecidableEq α]
def mput : List (α × β) → α → β → List (α × β)
  | [], a, v => [(a, v)]
  | p :: D, a, v => if p.1 = a then (a, v) :: D else p :: mput D a v
def mget : List (α × β) → α → Option β
  | [], _ => none
  | p :: D, a => if p.1 = a then some p.2 else mget D a
theorem mget_mput (D : List (α × β)) (a b : α) (v : β) : mget (mput D a v) b = if b = a then some v else mget D b := by
  induction D with
  | nil => by_cases h : b = a <;> simp [mput, mget, h]; exact fun e => absurd e.symm h
  | cons p D ih =>
    by_cases hc : p.1 = a
    · simp only [mput, if_pos hc, mget]
      by_cases h : b = a
      · simp [h]
      · rw [if_neg (Ne.symm h), if_neg h, if_neg (by rw [hc]; exact Ne.symm h)]
    · simp only [mput, if_neg hc, mget, ih]
      by_cases h : p.1 = b
      · rw [if_pos h, if_pos h, if_neg (by rw [← h]; exact hc)]
      · rw [if_neg h, if_neg h]
theorem mput_new {D : List (α × β)} {a : α} (h : ∀ p ∈ D, p.1 ≠ a) (v : β) : mput D a v = D ++ [(a, v)] := by
  induction D with
  | nil => rfl
  | cons p D ih => rw [mput, if_neg (h p (by simp)), ih fun q hq => h q (by simp [hq])]; rfl
theorem mput_set {D : List (α × β)} (hn : (D.map (·.1)).Nodup) {j : Nat} {a : α} {u : β} (h : D[j]? = some (a, u)) (v : β) : mput D a v = D.set j (a, v) := by
  induction D generalizing j with
  | nil => cases h
  | cons p D ih =>
    rw [List.map_cons, List.nodup_cons] at hn
    cases j with
    | zero => cases h; simp [mput]
    | succ j =>
      have hj : D[j]? = some (a, u) := h
      have : p.1 ≠ a := fun e => hn.1 (e ▸ List.mem_map.2 ⟨(a, u), List.mem_of_getElem? hj, rfl⟩)
      rw [mput, if_neg this, ih hn.2 hj]; rfl
theorem mget_none {D : List (α × β)} {a : α} (h : ∀ p ∈ D, p.1 ≠ a) : mget D a = none := by
  induction D with
  | nil => rfl
  | cons p D ih => rw [mget, if_neg (h p (by simp))]; exact ih fun q hq => h q (by simp [hq])
theorem mget_at {D : List (α × β)} (hn : (D.map (·.1)).Nodup) {j : Nat} {a : α} {u : β} (h : D[j]? = some (a, u)) : mget D a = some u := by
  induction D generalizing j with
  | nil => cases h
  | cons p D ih =>
    rw [List.map_cons, List.nodup_cons] at hn
    cases j with
    | zero => cases h; simp [mget]
    | succ j =>
      have hj : D[j]? = some (a, u) := h
      have : p.1 ≠ a := fun e => hn.1 (e ▸ List.mem_map.2 ⟨(a, u), List.mem_of_getElem? hj, rfl⟩)
      rw [mget, if_neg this]
      exact ih hn.2 hj
theorem mget_mem {D : List (α × β)} {a : α} {u : β} (h : mget D a = some u) : ∃ j : Nat, D[j]? = some (a, u) := by
  induction D with
  | nil => cases h
  | cons p D ih =>
    rw [mget] at h
    split at h
    · rename_i e
      cases h
      exact ⟨0, by simp [← e]⟩
    · obtain ⟨j, hj⟩ := ih h
      exact ⟨j + 1, hj⟩
theorem mget_isSome {D : List (α × β)} {a : α} : (mget D a).isSome = true ↔ a ∈ D.map (·.1) := by
  induction D with
  | nil => simp [mget]
  | cons p D ih =>
    rw [mget, List.map_cons, List.mem_cons]
    split
    · rename_i e; simp [e]
    · rename_i e; rw [ih]; exact ⟨.inr, fun h => h.resolve_left (Ne.symm e)⟩
theorem mput_length_none {D : List (α × β)} {a : α} (h : mget D a = none) (v : β) : (mput D a v).length = D.length + 1 := by
  induction D with
  | nil => rfl
  | cons p D ih =>
    rw [mget] at h
    split at h
    · cases h
    · rename_i e
      rw [mput, if_neg e, List.length_cons, ih h, List.length_cons]
theorem mput_length_some {D : List (α × β)} {a : α} {u : β} (h : mget D a = some u) (v : β) : (mput D a v).length = D.length := by
  induction D with
  | nil => cases h
  | cons p D ih =>
    rw [mget] at h
    split at h
    · rename_i e; rw [mput, if_pos e]; rfl
    · rename_i e
      rw [mput, if_neg e, List.length_cons, ih h, List.length_cons]
theorem mput_length_le (D : List (α × β)) (a : α) (v : β) : (mput D a v).length ≤ D.length + 1 := by
  cases h : mget D a with
  | none => rw [mput_length_none h]; omega
  | some u => rw [mput_length_some h]; omega
def mdel (D : List (α × β)) (a : α) : List (α × β) := D.filter fun p => decide (p.1 ≠ a)
theorem mdel_none {D : List (α × β)} {a : α} (h : ∀ p ∈ D, p.1 ≠ a) : mdel D a = D := List.filter_eq_self.2 fun p hp => by simpa using h p hp
theorem mdel_at {D : List (α × β)} (hn : (D.map (·.1)).Nodup) {j : Nat} {a : α} {u : β} (h : D[j]? = some (a, u)) : mdel D a = D.eraseIdx j := by
  induction D generalizing j with
  | nil => cases h
  | cons p D ih =>
    rw [List.map_cons, List.nodup_cons] at hn
    cases j with
    | zero =>
      cases h
      have : ∀ p ∈ D, p.1 ≠ a := fun p hp e => hn.1 (by subst e; exact List.mem_map.2 ⟨p, hp, rfl⟩)
      simp only [mdel, List.filter_cons, ne_eq, not_true_eq_false, decide_false, List.eraseIdx_zero, List.tail_cons]
      exact mdel_none this
    | succ j =>
      have hj : D[j]? = some (a, u) := h
      have : p.1 ≠ a := fun e => hn.1 (e ▸ List.mem_map.2 ⟨(a, u), List.mem_of_getElem? hj, rfl⟩)
      have ih' := ih hn.2 hj
      simp only [mdel, List.filter_cons, this, ne_eq, not_false_eq_true, decide_true, if_true, List.eraseIdx_cons_succ] at ih' ⊢
      rw [ih']
theorem mget_mdel (D : List (α × β)) (a b : α) : mget (mdel D a) b = if b = a then none else mget D b := by
  induction D with
  | nil => simp [mdel, mget]
  | cons p D ih =>
    by_cases h : p.1 = a
    · rw [show mdel (p :: D) a = mdel D a from by simp [mdel, List.filter_cons, h], ih, mget]
      by_cases hb : b = a
      · simp [hb]
      · rw [if_neg hb, if_neg hb, if_neg (by rw [h]; exact Ne.symm hb)]
    · rw [show mdel (p :: D) a = p :: mdel D a from by simp [mdel, List.filter_cons, h], mget, mget, ih]
      by_cases hb : p.1 = b
      · rw [if_pos hb, if_pos hb, if_neg (by rw [← hb]; exact h)]
      · rw [if_neg hb, if_neg hb]
end

variable {α : Type} {P : Program} {k : TypeId} {enc : α → Value}

/-- The entries of a map's block are the list D. -/
structure MapIn (P : Program) (k : TypeId) (enc : α → Value) (es : Array MapEntry) (clock : Nat) (D : List (α × Value)) : Prop where
  stamped : Stamped es clock
  keys : ∀ x ∈ es.toList, ∃ l, keyOf P k x.key = some l
  list : es.toList.map (fun e => (e.key, e.val)) = D.map fun p => (enc p.1, p.2)
  size : es.size ≤ maxLen
def MapT (P : Program) (k : TypeId) (enc : α → Value) (g : Nat) (D : List (α × Value)) : Chunk := .oth fun h => ∃ es clock, h g = some (.map es clock) ∧ MapIn P k enc es clock D
def MapIs (P : Program) (k : TypeId) (enc : α → Value) (g : Nat) (D : List (α × Value)) (w : World) : Prop := ∃ es clock, w.heap[g]? = some (.map es clock) ∧ MapIn P k enc es clock D

section
variable {es : Array MapEntry} {clock : Nat} {D : List (α × Value)}
theorem MapIn.length (h : MapIn P k enc es clock D) : D.length = es.size := by
  have := congrArg List.length h.list
  simpa using this.symm
theorem MapIn.at_ (h : MapIn P k enc es clock D) {j : Nat} {e : MapEntry} (he : es.toList[j]? = some e) : ∃ p, D[j]? = some p ∧ e.key = enc p.1 ∧ e.val = p.2 := by
  have := congrArg (·[j]?) h.list
  simp only [List.getElem?_map, he, Option.map_some] at this
  cases hd : D[j]? with
  | none => rw [hd] at this; cases this
  | some p =>
    rw [hd] at this
    simp only [Option.map_some, Option.some.injEq, Prod.mk.injEq] at this
    exact ⟨p, rfl, this.1, this.2⟩
theorem MapIn.nodup (h : MapIn P k enc es clock D) : (D.map (·.1)).Nodup := by
  have h1 := h.stamped.2.2
  have e : es.toList.map (·.key) = (D.map (·.1)).map enc := by
    have := congrArg (List.map Prod.fst) h.list
    rw [List.map_map, List.map_map] at this
    rw [List.map_map]
    exact this
  rw [e] at h1
  exact List.Pairwise.of_map enc (fun a b h e => h (congrArg enc e)) h1
theorem MapIn.keyed (h : MapIn P k enc es clock D) : ∀ p ∈ D, ∃ l, keyOf P k (enc p.1) = some l := by
  intro p hp
  have hm : (enc p.1, p.2) ∈ es.toList.map (fun e => (e.key, e.val)) := by rw [h.list]; exact List.mem_map.2 ⟨p, hp, rfl⟩
  obtain ⟨e, he, e2⟩ := List.mem_map.1 hm
  obtain ⟨l, hl⟩ := h.keys e he
  exact ⟨l, by rw [← (Prod.mk.inj e2).1]; exact hl⟩
/-- What a search finds. -/
theorem MapIn.find (h : MapIn P k enc es clock D) (inj : ∀ a b, enc a = enc b → a = b) (K : Keyed P k) (w : World) {a : α} {l : Lit} (hx : keyOf P k (enc a) = some l) :
    ((Instr.findKey k (enc a) es.toList).run P w = .ok none w ∧ (∀ x ∈ es.toList, x.key ≠ enc a) ∧ ∀ p ∈ D, p.1 ≠ a) ∨
    ∃ j e, (Instr.findKey k (enc a) es.toList).run P w = .ok (some (j, e.val)) w ∧ es.toList[j]? = some e ∧ e.key = enc a ∧ D[j]? = some (a, e.val) := by
  rcases K.find w hx es.toList h.keys with ⟨h1, h2⟩ | ⟨j, e, h1, h2, h3⟩
  · refine .inl ⟨h1, h2, fun p hp e => ?_⟩
    have hm : (enc p.1, p.2) ∈ es.toList.map (fun e => (e.key, e.val)) := by rw [h.list]; exact List.mem_map.2 ⟨p, hp, rfl⟩
    obtain ⟨x, hx, e2⟩ := List.mem_map.1 hm
    exact h2 x hx (by rw [(Prod.mk.inj e2).1, e])
  · obtain ⟨p, hp, e1, e2⟩ := h.at_ h2
    have : p.1 = a := inj _ _ (by rw [← e1, h3])
    exact .inr ⟨j, e, h1, h2, h3, by rw [hp, e2, ← this]⟩
end

section
variable {D : List (α × Value)} {g : Nat} {W w : World} {L : List Chunk} {E : Env} {o : Oper} {t e : TypeId} {a : α} {l : Lit}
theorem Sat.mapIs (s : Sat (MapT P k enc g D :: L) w) : MapIs P k enc g D w := by
  obtain ⟨h1, h2, ap, s1, s2, ⟨es, c, he, hm⟩, y⟩ := s
  exact ⟨es, c, s1 _ _ he, hm⟩
theorem St.mapIs (s : St W L w) (j : Nat) (hj : L[j]? = some (MapT P k enc g D)) : MapIs P k enc g D w := (s.at_ hj).1.mapIs
theorem Knows.mapIs {j : Nat} (hj : L[j]? = some (MapT P k enc g D)) : Knows L (MapIs P k enc g D) := fun w s => (s.perm (perm_at hj)).mapIs
theorem MapIs.nodup (h : MapIs P k enc g D w) : (D.map (·.1)).Nodup := by obtain ⟨es, c, _, hm⟩ := h; exact hm.nodup
theorem MapIs.keyed (h : MapIs P k enc g D w) : ∀ p ∈ D, ∃ l, keyOf P k (enc p.1) = some l := by obtain ⟨es, c, _, hm⟩ := h; exact hm.keyed
theorem MapIs.length (h : MapIs P k enc g D w) : D.length ≤ maxLen := by obtain ⟨es, c, _, hm⟩ := h; rw [hm.length]; exact hm.size
/-- A look-up. -/
theorem MapIs.lookup [DecidableEq α] (h : MapIs P k enc g D w) (inj : ∀ a b, enc a = enc b → a = b) (K : Keyed P k) (ht : P.underlying t = some (.map k e)) {z : Value} (hz : ∀ w, (zeroValue e).run P w = .ok z w) (hx : keyOf P k (enc a) = some l) (c : Bool) :
    (Instr.lookup t (.map (some g)) (enc a) c).run P w = .ok (if c then .tuple #[(mget D a).getD z, .bool (mget D a).isSome] else (mget D a).getD z) w := by
  obtain ⟨es, clock, hb, hm⟩ := h
  rcases hm.find inj K w hx with ⟨h1, h2, h3⟩ | ⟨j, e0, h1, h2, h3, h4⟩
  · rw [mget_none h3]
    cases c <;> simp [Instr.lookup, run_underlying ht, MapKept.run_getObj_map hb, K.check w _ hx, h1, hz, Result.andThen]
  · rw [mget_at hm.nodup h4]
    cases c <;> simp [Instr.lookup, run_underlying ht, MapKept.run_getObj_map hb, K.check w _ hx, h1, Result.andThen]
theorem run_lookup [DecidableEq α] {x y : Operand} {z : Value} (v : Value) (h : MapIs P k enc g D w) (ho : o.op = .lookup t x y false) (hx : evalE E x = .map (some g)) (hy : evalE E y = enc a) (inj : ∀ a b, enc a = enc b → a = b) (K : Keyed P k) (ht : P.underlying t = some (.map k e)) (hz : ∀ w, (zeroValue e).run P w = .ok z w)
    (hk : keyOf P k (enc a) = some l) (hv : (mget D a).getD z = v) : (execOp (evalE E) o).run P w = .ok (.value v) w := by
  have := h.lookup inj K ht hz hk false
  rw [hv] at this
  simp [execOp, ho, hx, hy, this]
theorem run_lookup_ok [DecidableEq α] {x y : Operand} {z : Value} (v : Value) (b : Bool) (h : MapIs P k enc g D w) (ho : o.op = .lookup t x y true) (hx : evalE E x = .map (some g)) (hy : evalE E y = enc a) (inj : ∀ a b, enc a = enc b → a = b) (K : Keyed P k) (ht : P.underlying t = some (.map k e)) (hz : ∀ w, (zeroValue e).run P w = .ok z w)
    (hk : keyOf P k (enc a) = some l) (hv : (mget D a).getD z = v) (hb : (mget D a).isSome = b) : (execOp (evalE E) o).run P w = .ok (.value (.tuple #[v, .bool b])) w := by
  have := h.lookup inj K ht hz hk true
  rw [hv, hb] at this
  simp [execOp, ho, hx, hy, this]
/-- make. -/
theorem Sat.newMap (s : Sat L w) : Sat (MapT P k enc w.heap.size [] :: L) (w.alloc (.map #[] 0)) := by
  refine SatH.new s (hp_alloc_sub _ _) (k1 := fun k => if k = w.heap.size then some (.map #[] 0) else none) ⟨#[], 0, by simp, ⟨stamped_empty 0, by simp, by simp, by simp⟩⟩ ?_ ?_
  · intro k o e
    by_cases hk : k = w.heap.size
    · subst hk; simp at e; subst e
      show (w.heap.push _)[w.heap.size]? = _
      simp
    · simp [hk] at e
  · intro k
    by_cases hk : k = w.heap.size
    · right; subst hk; simp [hp]
    · left; simp [hk]
theorem ex_makeMap (P : Program) (k : TypeId) (enc : α → Value) (s : St W L w) (ho : o.op = .makeMap t none) : ∃ v w1, (execOp (evalE E) o).run P w = .ok (.value v) w1 ∧ ∃ g, v = .map (some g) ∧ St W (MapT P k enc g [] :: L) w1 := by
  refine ⟨.map (some w.heap.size), w.alloc (.map #[] 0), ?_, _, rfl, s.1.newMap, s.2.trans ⟨rfl, rfl, rfl, by simp, Nat.le_refl _⟩⟩
  have : (Instr.makeMap t none).run P w = .ok (.map (some w.heap.size)) (w.alloc (.map #[] 0)) := rfl
  simp [execOp, ho, this, Result.andThen]
theorem Sat.setMap {w' : World} {D' : List (α × Value)} (s : Sat (MapT P k enc g D :: L) w) (H : ∀ es c, w.heap[g]? = some (.map es c) → MapIn P k enc es c D → ∃ es' c', w' = { w with heap := w.heap.setIfInBounds g (.map es' c') } ∧ MapIn P k enc es' c' D') : Sat (MapT P k enc g D' :: L) w' := by
  obtain ⟨es0, c0, hb0, hm0⟩ := s.mapIs
  obtain ⟨es1, c1, hw, hm1⟩ := H es0 c0 hb0 hm0
  subst hw
  refine SatH.put s fun h1 s1 x => ?_
  obtain ⟨es, c, hb, hm⟩ := x
  have hs := heap_set (o' := .map es1 c1) (s1 _ _ hb)
  refine ⟨fun k => if k = g then some (.map es1 c1) else none, ⟨es1, c1, by simp, hm1⟩, ?_, ?_⟩
  · intro i o e
    by_cases hi : i = g
    · subst hi; simp at e; subst e; exact hs.1
    · simp [hi] at e
  · intro i e he
    have hi : i ≠ g := by rintro rfl; rw [hb] at e; cases e
    exact ⟨by simp [hi], hs.2 i hi⟩
/-- m[k] = v. -/
theorem run_mapUpdate_owned [DecidableEq α] (s : Sat (MapT P k enc g D :: L) w) (inj : ∀ a b, enc a = enc b → a = b) (K : Keyed P k) (ht : P.underlying t = some (.map k e)) (hx : keyOf P k (enc a) = some l) (hroom : D.length < maxLen) (v : Value) :
    ∃ w1, (Instr.mapUpdate t (.map (some g)) (enc a) v).run P w = .ok () w1 ∧ Sat (MapT P k enc g (mput D a v) :: L) w1 ∧ Ext w w1 := by
  obtain ⟨es, clock, hb, hm⟩ := s.mapIs
  rcases hm.find inj K w hx with ⟨h1, h2, h3⟩ | ⟨j, e0, h1, h2, h3, h4⟩
  · refine ⟨{ w with heap := w.heap.setIfInBounds g (.map (es.push ⟨enc a, v, clock⟩) (clock + 1)) }, ?_, s.setMap fun es2 c2 hb2 _ => ?_, ⟨rfl, rfl, rfl, by simp, Nat.le_refl _⟩⟩
    · simp [Instr.mapUpdate, run_underlying ht, MapKept.run_getObj_map hb, K.check w false hx, h1, MapKept.run_setObj_map _ hb, Result.andThen]
    · rw [hb] at hb2; cases hb2
      refine ⟨_, _, rfl, stamped_push hm.stamped h2, fun x hx' => ?_, ?_, by rw [Array.size_push]; have := hm.length; omega⟩
      · simp only [Array.toList_push, List.mem_append, List.mem_singleton] at hx'
        rcases hx' with hx' | rfl
        · exact hm.keys x hx'
        · exact ⟨l, hx⟩
      · rw [mput_new h3, Array.toList_push, List.map_append, List.map_append, hm.list]; rfl
  · have hj : es[j]? = some e0 := by simpa using h2
    have hlist : (es.modify j (fun e' => { e' with key := enc a, val := v })).toList = es.toList.set j { e0 with key := enc a, val := v } := by rw [Array.toList_modify, ChangeMaps.modify_eq_set _ _ _ _ h2]
    refine ⟨{ w with heap := w.heap.setIfInBounds g (.map (es.modify j fun e' => { e' with key := enc a, val := v }) clock) }, ?_, s.setMap fun es2 c2 hb2 _ => ?_, ⟨rfl, rfl, rfl, by simp, Nat.le_refl _⟩⟩
    · simp [Instr.mapUpdate, run_underlying ht, MapKept.run_getObj_map hb, K.check w false hx, h1, hj, h3, K.stays w hx, MapKept.run_setObj_map _ hb, Result.andThen]
    · rw [hb] at hb2; cases hb2
      refine ⟨_, _, rfl, stamped_modify hm.stamped _ _ (fun _ _ => rfl) (fun e' _ he' => by rw [hj] at he'; cases he'; exact h3.symm), fun x hx' => ?_, ?_, by simpa using hm.size⟩
      · rw [hlist] at hx'
        rcases List.mem_or_eq_of_mem_set hx' with hx' | rfl
        · exact hm.keys x hx'
        · exact ⟨l, hx⟩
      · rw [mput_set hm.nodup h4, hlist, List.map_set, List.map_set, hm.list]
theorem ex_mapUpdate [DecidableEq α] {x y z : Operand} (j : Nat) (v : Value) (s : St W L w) (hj : L[j]? = some (MapT P k enc g D)) (ho : o.op = .mapUpdate t x y z) (hx : evalE E x = .map (some g)) (hy : evalE E y = enc a) (hz : evalE E z = v) (inj : ∀ a b, enc a = enc b → a = b) (K : Keyed P k) (ht : P.underlying t = some (.map k e))
    (hk : keyOf P k (enc a) = some l) (hroom : D.length < maxLen) : ∃ w1, (execOp (evalE E) o).run P w = .ok .skip w1 ∧ St W (L.set j (MapT P k enc g (mput D a v))) w1 := by
  obtain ⟨w1, hr, hs, hE⟩ := run_mapUpdate_owned (P := P) (s.at_ hj).1 inj K ht hk hroom v
  refine ⟨w1, ?_, St.perm ⟨hs, s.2.trans hE⟩ (perm_set hj _)⟩
  simp [execOp, ho, hx, hy, hz, hr, Result.andThen]
/-- delete. -/
theorem ex_delete [DecidableEq α] {x y : Operand} (j : Nat) (s : St W L w) (hj : L[j]? = some (MapT P k enc g D)) (ho : o.op = .call { callee := .builtin .delete, args := #[x, y], argTypes := #[t, k] }) (hx : evalE E x = .map (some g)) (hy : evalE E y = enc a) (inj : ∀ a b, enc a = enc b → a = b) (K : Keyed P k) (ht : P.underlying t = some (.map k e))
    (hk : keyOf P k (enc a) = some l) : ∃ v w1, (execOp (evalE E) o).run P w = .ok (.value v) w1 ∧ v = .tuple #[] ∧ St W (L.set j (MapT P k enc g (mdel D a))) w1 := by
  have s1 := (s.at_ hj).1
  obtain ⟨es, clock, hb, hm⟩ := s1.mapIs
  rcases hm.find inj K w hk with ⟨h1, h2, h3⟩ | ⟨i, e0, h1, h2, h3, h4⟩
  · refine ⟨_, { w with heap := w.heap.setIfInBounds g (.map es clock) }, ?_, rfl, St.perm ⟨s1.setMap fun es2 c2 hb2 hm2 => ?_, s.2.trans ⟨rfl, rfl, rfl, by simp, Nat.le_refl _⟩⟩ (perm_set hj _)⟩
    · simp [execOp, ho, hx, hy, resolve, invoke, builtin, Builtin.delete_, run_underlying ht, MapKept.run_getObj_map hb, K.check w _ hk, h1, MapKept.run_setObj_map _ hb, Result.andThen]
    · rw [hb] at hb2; cases hb2
      exact ⟨_, _, rfl, by rw [mdel_none h3]; exact hm⟩
  · have hil : i < es.toList.length := (List.getElem?_eq_some_iff.1 h2).1
    have hlist : (es.eraseIdxIfInBounds i).toList = es.toList.eraseIdx i := by
      simp
    refine ⟨_, { w with heap := w.heap.setIfInBounds g (.map (es.eraseIdxIfInBounds i) clock) }, ?_, rfl, St.perm ⟨s1.setMap fun es2 c2 hb2 hm2 => ?_, s.2.trans ⟨rfl, rfl, rfl, by simp, Nat.le_refl _⟩⟩ (perm_set hj _)⟩
    · simp [execOp, ho, hx, hy, resolve, invoke, builtin, Builtin.delete_, run_underlying ht, MapKept.run_getObj_map hb, K.check w _ hk, h1, MapKept.run_setObj_map _ hb, Result.andThen]
    · rw [hb] at hb2; cases hb2
      refine ⟨_, _, rfl, stamped_erase hm.stamped i, fun x hx' => hm.keys x ?_, ?_, ?_⟩
      · rw [hlist] at hx'; exact List.mem_of_mem_eraseIdx hx'
      · rw [hlist, mdel_at hm.nodup h4, ChangeMaps.map_eraseIdx, ChangeMaps.map_eraseIdx, hm.list]
      · have e1 : (es.eraseIdxIfInBounds i).size = (es.toList.eraseIdx i).length := (Array.length_toList ..).symm.trans (congrArg List.length hlist)
        have h5 := List.length_eraseIdx_le es.toList i
        have h6 := hm.size
        rw [Array.length_toList] at h5
        exact Nat.le_trans (Nat.le_of_eq e1) (Nat.le_trans h5 h6)
end
theorem Knows.cells {L : List Chunk} {j g : Nat} {cs : List Value} {t : TypeId} (h : L[j]? = some (.blk g cs t)) : Knows L fun w => BlkIs g cs w := fun w s => (s.perm (perm_at h)).cell
section
variable {Q : Exit → Act → World → Prop} {a : Act} {w : World}
end
end Go.Proofs.YtfcbjcohepkkfaaGreat.Sep
