import Derived.RowKit
import Derived.Test.YtfcbjcohepkkfaaGreatSepY
/-
 What transactions did, and a plain map from texts to texts: in plain Lean.
-/
namespace Go.Proofs.YtfcbjcohepkkfaaGreat.P
set_option linter.unusedVariables false
abbrev K := List UInt8
structure Rw where
 key : K
 val : K
deriving DecidableEq, Inhabited
/-- What was done, and answered. -/
structure Td where
 op : Int
 key : K
 val : K
 frm : K
 to : K
 is : Bool
 rows : List Rw
deriving DecidableEq, Inhabited
structure Tn where
 id : Int
 wall : Int
 logic : Int
 l : List Td
deriving DecidableEq, Inhabited
/-! ### rows that rise -/
def Up (R : List Rw) : Prop := R.Pairwise fun a b => a.key < b.key
def inS (f t : K) (x : Rw) : Bool := decide (f ≤ x.key) && decide (x.key < t)
def within (R : List Rw) (f t : K) : List Rw := R.filter (inS f t)
def without (R : List Rw) (f t : K) : List Rw := R.filter fun x => !inS f t x
def put : List Rw → Rw → List Rw
 | [], r => [r]
 | x :: R, r => if x.key < r.key then x :: put R r else if x.key = r.key then r :: R else r :: x :: R
def lookR (R : List Rw) (k : K) : Option K := (R.find? fun x => decide (x.key = k)).map (·.val)
def drop1 (R : List Rw) (k : K) : List Rw := R.filter fun x => decide (x.key ≠ k)
theorem klt_irrefl (a : K) : ¬ a < a := by grind
theorem klt_trans {a b c : K} (h : a < b) (k : b < c) : a < c := by grind
theorem kle_iff {a b : K} : a ≤ b ↔ ¬ b < a := by grind
theorem klt_tri (a b : K) : a < b ∨ a = b ∨ b < a := by grind
theorem own_iff (k : K) : ∀ x : K, (k ≤ x ∧ x < k ++ [0]) ↔ x = k := by
 induction k with
 | nil =>
  intro x
  cases x with
  | nil => simp
  | cons a x =>
   simp only [List.nil_append]
   constructor
   ·
    rintro ⟨_, h⟩
    rw [List.cons_lt_cons_iff] at h
    rcases h with h | ⟨_, h⟩
    ·
     exact absurd h (by simp)
    exact absurd h (by simp)
   intro h; cases h
 | cons b k ih =>
  intro x
  cases x with
  | nil => simp
  | cons a x =>
   rw [List.cons_append, List.cons_lt_cons_iff, List.cons_le_cons_iff]
   constructor
   ·
    rintro ⟨h1, h2⟩
    rcases h1 with h1 | ⟨rfl, h1⟩
    ·
     rcases h2 with h2 | ⟨rfl, h2⟩
     ·
      exact absurd h1 (by have := UInt8.lt_asymm h2; simpa using this)
     exact absurd h1 (UInt8.lt_irrefl _)
    rcases h2 with h2 | ⟨_, h2⟩
    ·
     exact absurd h2 (UInt8.lt_irrefl _)
    rw [(ih x).1 ⟨h1, h2⟩]
   intro h
   cases h
   have := (ih k).2 rfl
   exact ⟨.inr ⟨rfl, this.1⟩, .inr ⟨rfl, this.2⟩⟩
theorem inS_own (k : K) (x : Rw) : inS k (k ++ [0]) x = decide (x.key = k) := by
 rw [inS, ← Bool.decide_and]
 exact decide_eq_decide.2 (own_iff k x.key)
theorem without_own (R : List Rw) (k : K) : without R k (k ++ [0]) = drop1 R k := by
 unfold without drop1
 congr 1
 funext x
 rw [inS_own]
 by_cases h : x.key = k <;> simp [h]
theorem within_own (R : List Rw) (h : Up R) (k : K) : within R k (k ++ [0]) = match R.find? fun x => decide (x.key = k) with | none => [] | some x => [x] := by
 unfold within
 rw [show inS k (k ++ [0]) = fun x => decide (x.key = k) from funext (inS_own k)]
 induction R with
 | nil => rfl
 | cons x R ih =>
  have hx := (List.pairwise_cons.1 h).1
  have hR := (List.pairwise_cons.1 h).2
  by_cases e : x.key = k
  ·
   simp only [List.filter_cons, List.find?_cons, e, decide_true, if_true]
   rw [List.filter_eq_nil_iff.2]
   intro y hy
   have := hx y hy
   simp only [decide_eq_true_eq]
   intro e2
   rw [e, e2] at this
   exact klt_irrefl _ this
  simp only [List.filter_cons, List.find?_cons, e, decide_false]
  simpa using ih hR
theorem put_mem {R : List Rw} {r x : Rw} (h : x ∈ put R r) : x = r ∨ x ∈ R := by
 induction R with
 | nil => simp [put] at h; exact .inl h
 | cons a R ih =>
  unfold put at h
  split at h
  ·
   rcases List.mem_cons.1 h with h | h
   ·
    exact .inr (by simp [h])
   rcases ih h with h | h
   ·
    exact .inl h
   exact .inr (by simp [h])
  split at h
  ·
   rcases List.mem_cons.1 h with h | h
   ·
    exact .inl h
   exact .inr (by simp [h])
  rcases List.mem_cons.1 h with h | h
  ·
   exact .inl h
  exact .inr h
theorem put_up {R : List Rw} (h : Up R) (r : Rw) : Up (put R r) := by
 induction R with
 | nil => simp [put, Up]
 | cons a R ih =>
  have ha := (List.pairwise_cons.1 h).1
  have hR := (List.pairwise_cons.1 h).2
  unfold put
  split
  ·
   rename_i h1
   refine List.pairwise_cons.2 ⟨fun x hx => ?_, ih hR⟩
   rcases put_mem hx with rfl | hx
   ·
    exact h1
   exact ha x hx
  split
  ·
   rename_i h1 h2
   exact List.pairwise_cons.2 ⟨fun x hx => by have := ha x hx; rw [h2] at this; exact this, hR⟩
  rename_i h1 h2
  have h3 : r.key < a.key := by rcases klt_tri a.key r.key with h | h | h <;> first | exact absurd h h1 | exact absurd h h2 | exact h
  refine List.pairwise_cons.2 ⟨fun x hx => ?_, h⟩
  rcases List.mem_cons.1 hx with rfl | hx
  ·
   exact h3
  exact klt_trans h3 (ha x hx)
theorem put_perm {R : List Rw} (h : Up R) (r : Rw) : (put R r).Perm (r :: drop1 R r.key) := by
 induction R with
 | nil => simp [put, drop1]
 | cons a R ih =>
  have ha := (List.pairwise_cons.1 h).1
  have hR := (List.pairwise_cons.1 h).2
  unfold put
  split
  ·
   rename_i h1
   have e : drop1 (a :: R) r.key = a :: drop1 R r.key := by
    have : a.key ≠ r.key := by intro e; rw [e] at h1; exact klt_irrefl _ h1
    simp [drop1, this]
   rw [e]
   exact ((ih hR).cons a).trans (List.Perm.swap _ _ _)
  have gt : ∀ x ∈ R, x.key ≠ r.key := fun x hx e => by
   have := ha x hx
   rename_i h1
   rw [e] at this
   exact h1 this
  have e0 : drop1 R r.key = R := List.filter_eq_self.2 fun x hx => by simpa using gt x hx
  split
  ·
   rename_i h1 h2
   have e : drop1 (a :: R) r.key = R := by rw [← e0]; simp [drop1, h2]
   rw [e]
  rename_i h1 h2
  have e : drop1 (a :: R) r.key = a :: R := by rw [← e0]; simp [drop1, h2]
  rw [e]
theorem Up.filter {R : List Rw} (h : Up R) (p : Rw → Bool) : Up (R.filter p) := List.Pairwise.filter p h
theorem put_length (R : List Rw) (r : Rw) : (put R r).length ≤ R.length + 1 := by
 induction R with
 | nil => simp [put]
 | cons a R ih =>
  unfold put
  split
  ·
   simp; omega
  split <;> simp
/-! ### what is done -/
def look (R : List Rw) (k : K) : Option K := lookR R k
def isWell (R : List Rw) (d : Td) : Bool :=
 if d.op = 1 then (match lookR R d.key with | none => !d.is && decide (d.val = []) | some v => d.is && decide (v = d.val))
 else if d.op = 2 then decide (within R d.frm d.to = d.rows) else true
def nextR (R : List Rw) (d : Td) : List Rw :=
 if d.op = 3 then put R ⟨d.key, d.val⟩ else if d.op = 4 then drop1 R d.key else if d.op = 5 then without R d.frm d.to else R
theorem nextR_up {R : List Rw} (h : Up R) (d : Td) : Up (nextR R d) := by
 unfold nextR
 split
 ·
  exact put_up h _
 split
 ·
  exact h.filter _
 split
 ·
  exact h.filter _
 exact h
theorem nextR_length (R : List Rw) (d : Td) : (nextR R d).length ≤ R.length + 1 := by
 unfold nextR drop1 without
 split
 ·
  exact put_length _ _
 split
 ·
  exact Nat.le_trans (List.length_filter_le _ _) (by omega)
 split
 ·
  exact Nat.le_trans (List.length_filter_le _ _) (by omega)
 omega
/-- All done, one behind the other: what is left, and the first one that was answered otherwise. -/
def run {τ : Type} : List Rw → List (τ × Td) → List Rw × Option τ
 | R, [] => (R, none)
 | R, x :: l => ((run (nextR R x.2) l).1, if isWell R x.2 then (run (nextR R x.2) l).2 else some x.1)
def left {τ : Type} (R : List Rw) (l : List (τ × Td)) : List Rw := l.foldl (fun R x => nextR R x.2) R
def first {τ : Type} : List Rw → List (τ × Td) → Option τ
 | _, [] => none
 | R, x :: l => if isWell R x.2 then first (nextR R x.2) l else some x.1
theorem left_up {τ : Type} {R : List Rw} (h : Up R) (l : List (τ × Td)) : Up (left R l) := by
 induction l generalizing R with
 | nil => exact h
 | cons x l ih => exact ih (nextR_up h _)
theorem left_append {τ : Type} (R : List Rw) (l m : List (τ × Td)) : left R (l ++ m) = left (left R l) m := by simp [left]
theorem left_length {τ : Type} (R : List Rw) (l : List (τ × Td)) : (left R l).length ≤ R.length + l.length := by
 induction l generalizing R with
 | nil => simp [left]
 | cons x l ih =>
  have := ih (nextR R x.2)
  have := nextR_length R x.2
  simp only [left, List.foldl_cons, List.length_cons] at *
  omega
theorem first_append {τ : Type} (R : List Rw) (l m : List (τ × Td)) : first R (l ++ m) = (first R l).or (first (left R l) m) := by
 induction l generalizing R with
 | nil => simp [first, left]
 | cons x l ih =>
  simp only [List.cons_append, first]
  split
  ·
   rw [ih]; rfl
  rfl
theorem first_map {τ σ : Type} (g : τ → σ) (R : List Rw) (l : List (τ × Td)) : first R (l.map fun x => (g x.1, x.2)) = (first R l).map g := by
 induction l generalizing R with
 | nil => rfl
 | cons x l ih =>
  simp only [List.map_cons, first]
  split
  ·
   exact ih _
  rfl
/-! ### the order -/
def less (a b : Tn) : Prop := a.wall < b.wall ∨ (a.wall = b.wall ∧ (a.logic < b.logic ∨ (a.logic = b.logic ∧ a.id < b.id)))
instance (a b : Tn) : Decidable (less a b) := by unfold less; infer_instance
theorem less_irrefl (a : Tn) : ¬ less a a := by unfold less; omega
theorem less_trans {a b c : Tn} (h : less a b) (k : less b c) : less a c := by unfold less at *; omega
theorem less_asymm {a b : Tn} (h : less a b) (k : less b a) : False := by unfold less at *; omega
theorem less_total {a b : Tn} (h : a.id ≠ b.id) : less a b ∨ less b a := by unfold less; omega
def tAt (ds : List Tn) (i : Nat) : Tn := ds.getD i default
def IsOrd (ds : List Tn) (o : List Nat) : Prop := o.Perm (List.range ds.length) ∧ o.Pairwise fun i k => less (tAt ds i) (tAt ds k)
theorem IsOrd.unique {ds : List Tn} {o p : List Nat} (h : IsOrd ds o) (k : IsOrd ds p) : o = p :=
 List.Perm.eq_of_pairwise (le := fun i k => less (tAt ds i) (tAt ds k)) (fun a b _ _ h1 h2 => absurd h2 (fun h2 => less_asymm h1 h2)) h.2 k.2 (h.1.trans k.1.symm)
def okT (d : Td) : Prop := 1 ≤ d.op ∧ d.op ≤ 5
instance (d : Td) : Decidable (okT d) := by unfold okT; infer_instance
def okN (d : Tn) : Prop := (1 ≤ d.id ∧ d.id ≤ 9007199254740991) ∧ (0 ≤ d.wall ∧ d.wall ≤ 1099511627776 ∧ 0 ≤ d.logic ∧ d.logic ≤ 1048575) ∧ ∀ x ∈ d.l, okT x
instance (d : Tn) : Decidable (okN d) := by unfold okN; infer_instance
def many (ds : List Tn) : Nat := (ds.map (·.l.length)).sum
def few (ds : List Tn) : Prop := ds.length ≤ 1000 ∧ many ds ≤ 10000
instance (ds : List Tn) : Decidable (few ds) := by unfold few; infer_instance
def ids (ds : List Tn) : List Int := ds.map (·.id)
def okL (ds : List Tn) : Prop := (∀ d ∈ ds, okN d) ∧ (ids ds).Nodup
instance (ds : List Tn) : Decidable (okL ds) := by unfold okL; infer_instance
def code (ds : List Tn) : Int := if ¬ few ds then 5 else if okL ds then 0 else 2
theorem code_zero {ds : List Tn} : code ds = 0 ↔ few ds ∧ okL ds := by
 unfold code
 by_cases h : few ds <;> by_cases k : okL ds <;> simp [h, k]
/-- What is done, in order: each with its place. -/
def label {α : Type} (t : α) (l : List Td) : List ((α × Nat) × Td) := l.zipIdx.map fun x => ((t, x.2), x.1)
def things (ds : List Tn) (o : List Nat) : List ((Nat × Nat) × Td) := o.flatMap fun i => label i (tAt ds i).l
theorem things_append (ds : List Tn) (o p : List Nat) : things ds (o ++ p) = things ds o ++ things ds p := by simp [things]
theorem things_one (ds : List Tn) (i : Nat) : things ds [i] = label i (tAt ds i).l := by simp [things]
theorem label_at {α : Type} (t : α) (l : List Td) (j : Nat) : (label t l)[j]? = l[j]?.map fun x => ((t, j), x) := by
 simp only [label, List.getElem?_map, List.getElem?_zipIdx, Nat.zero_add]
 cases l[j]? <;> rfl
theorem label_len {α : Type} (t : α) (l : List Td) : (label t l).length = l.length := by simp [label]
theorem sum_tAt : ∀ (ds : List Tn), ((List.range ds.length).map fun i => (tAt ds i).l.length).sum = many ds := by
 intro ds
 unfold many
 congr 1
 apply List.ext_getElem
 ·
  simp
 intro i h1 h2
 simp only [List.getElem_map, List.getElem_range]
 simp at h2
 simp [tAt, List.getD_eq_getElem?_getD, h2]
theorem things_len {ds : List Tn} {o : List Nat} (h : IsOrd ds o) : (things ds o).length = many ds := by
 have e : (things ds o).length = (o.map fun i => (tAt ds i).l.length).sum := by
  unfold things
  rw [List.length_flatMap]
  simp [label_len]
 rw [e, (h.1.map _).sum_nat, sum_tAt]
theorem left_snoc {τ : Type} (R : List Rw) (l : List (τ × Td)) (x : τ × Td) : left R (l ++ [x]) = nextR (left R l) x.2 := by rw [left_append]; rfl
theorem first_snoc {τ : Type} (R : List Rw) (l : List (τ × Td)) (x : τ × Td) : first R (l ++ [x]) = (first R l).or (if isWell (left R l) x.2 then none else some x.1) := by
 rw [first_append]; congr 1
/-- Things up to some place. -/
def upTo (ds : List Tn) (o : List Nat) (k i j : Nat) : List ((Nat × Nat) × Td) := things ds (o.take k) ++ (label i (tAt ds i).l).take j
theorem upTo_zero (ds : List Tn) (o : List Nat) (k i : Nat) : upTo ds o k i 0 = things ds (o.take k) := by simp [upTo]
theorem upTo_all {ds : List Tn} {o : List Nat} {k i : Nat} (h : o[k]? = some i) : upTo ds o k i (tAt ds i).l.length = things ds (o.take (k + 1)) := by
 obtain ⟨hk, rfl⟩ := List.getElem?_eq_some_iff.1 h
 rw [List.take_succ_eq_append_getElem hk, things_append, things_one, upTo, List.take_of_length_le (l := label _ _) (by rw [label_len]; exact Nat.le_refl _)]
theorem upTo_snoc {ds : List Tn} {o : List Nat} {k i j : Nat} {x : Td} (h : (tAt ds i).l[j]? = some x) : upTo ds o k i (j + 1) = upTo ds o k i j ++ [((i, j), x)] := by
 have hl : (label i (tAt ds i).l)[j]? = some ((i, j), x) := by rw [label_at, h]; rfl
 obtain ⟨hj, e⟩ := List.getElem?_eq_some_iff.1 hl
 unfold upTo
 rw [List.take_succ_eq_append_getElem hj, e, List.append_assoc]
theorem upTo_le {ds : List Tn} {o : List Nat} {k i j : Nat} (h : o[k]? = some i) : (upTo ds o k i j).length ≤ (things ds o).length := by
 obtain ⟨hk, rfl⟩ := List.getElem?_eq_some_iff.1 h
 have e : o = o.take k ++ (o[k] :: o.drop (k + 1)) := by rw [← List.drop_eq_getElem_cons hk, List.take_append_drop]
 have e2 : (things ds o).length = (things ds (o.take k)).length + ((label o[k] (tAt ds o[k]).l).length + (things ds (o.drop (k + 1))).length) := by
  conv => lhs; rw [e]
  rw [things_append, show o[k] :: o.drop (k + 1) = [o[k]] ++ o.drop (k + 1) from rfl, things_append, things_one]
  simp
 rw [e2]
 unfold upTo
 rw [List.length_append, List.length_take]
 omega
theorem IsOrd.lt {ds : List Tn} {o : List Nat} (h : IsOrd ds o) {i : Nat} (hi : i ∈ o) : i < ds.length := List.mem_range.1 (h.1.mem_iff.1 hi)
theorem IsOrd.length {ds : List Tn} {o : List Nat} (h : IsOrd ds o) : o.length = ds.length := by have := h.1.length_eq; simpa using this
def dropK (R l : List Rw) : List Rw := l.foldl (fun R r => drop1 R r.key) R
theorem dropK_snoc (R l : List Rw) (x : Rw) : dropK R (l ++ [x]) = drop1 (dropK R l) x.key := by simp [dropK]
theorem dropK_filter (R l : List Rw) : dropK R l = R.filter fun x => !(l.any fun y => decide (x.key = y.key)) := by
 induction l generalizing R with
 | nil => exact (List.filter_eq_self.2 fun x _ => rfl).symm
 | cons y l ih =>
  show dropK (drop1 R y.key) l = _
  rw [ih, drop1, List.filter_filter]
  congr 1
  funext x
  by_cases e : x.key = y.key <;> simp [e]
theorem dropK_within {R : List Rw} (h : Up R) (f t : K) : dropK R (within R f t) = without R f t := by
 rw [dropK_filter]
 unfold without
 apply List.filter_congr
 intro x hx
 cases e : inS f t x with
 | true =>
  have : (within R f t).any (fun y => decide (x.key = y.key)) = true := List.any_eq_true.2 ⟨x, List.mem_filter.2 ⟨hx, e⟩, by simp⟩
  rw [this]
 | false =>
  have : (within R f t).any (fun y => decide (x.key = y.key)) = false := by
   rw [List.any_eq_false]
   intro y hy
   obtain ⟨h1, h2⟩ := List.mem_filter.1 hy
   simp only [decide_eq_true_eq]
   intro e2
   unfold inS at e h2
   rw [e2] at e
   rw [h2] at e; cases e
  rw [this]
/-! ### the order, by how many stand ahead -/
def rank (ds : List Tn) (i : Nat) : Nat := (List.range ds.length).countP fun k => decide (less (tAt ds k) (tAt ds i))
theorem countP_lt {l : List Nat} {p q : Nat → Bool} (h : ∀ x ∈ l, p x = true → q x = true) {a : Nat} (ha : a ∈ l) (h1 : p a = false) (h2 : q a = true) : l.countP p < l.countP q := by
 induction l with
 | nil => cases ha
 | cons x l ih =>
  have hm : l.countP p ≤ l.countP q := List.countP_mono_left fun y hy => h y (by simp [hy])
  rw [List.countP_cons, List.countP_cons]
  rcases List.mem_cons.1 ha with rfl | ha
  ·
   rw [if_neg (by rw [h1]; decide), if_pos h2]; omega
  have := ih (fun y hy => h y (by simp [hy])) ha
  have hx := h x (by simp)
  cases e : p x
  ·
   rw [if_neg (by decide)]; split <;> omega
  rw [if_pos rfl, if_pos (hx e)]; omega
theorem rank_lt {ds : List Tn} {i : Nat} (hi : i < ds.length) : rank ds i < ds.length := by
 unfold rank
 have h := countP_lt (l := List.range ds.length) (p := fun k => decide (less (tAt ds k) (tAt ds i))) (q := fun _ => true) (fun _ _ _ => rfl) (List.mem_range.2 hi) (decide_eq_false (less_irrefl _)) rfl
 simpa using h
theorem rank_mono {ds : List Tn} {i j : Nat} (hi : i < ds.length) (h : less (tAt ds i) (tAt ds j)) : rank ds i < rank ds j :=
 countP_lt (fun x _ hx => decide_eq_true (less_trans (of_decide_eq_true hx) h)) (List.mem_range.2 hi) (decide_eq_false (less_irrefl _)) (decide_eq_true h)
theorem tAt_id {ds : List Tn} {i : Nat} (hi : i < ds.length) : (ids ds)[i]? = some (tAt ds i).id := by simp [ids, tAt, List.getD_eq_getElem?_getD, hi]
theorem less_or {ds : List Tn} (hn : (ids ds).Nodup) {i j : Nat} (hi : i < ds.length) (hj : j < ds.length) (h : i ≠ j) : less (tAt ds i) (tAt ds j) ∨ less (tAt ds j) (tAt ds i) := by
 refine less_total fun e => h ?_
 obtain ⟨l1, e1⟩ := List.getElem?_eq_some_iff.1 (tAt_id hi)
 obtain ⟨l2, e2⟩ := List.getElem?_eq_some_iff.1 (tAt_id hj)
 exact (List.getElem_inj hn).1 (by rw [e1, e2, e])
theorem rank_inj {ds : List Tn} (hn : (ids ds).Nodup) {i j : Nat} (hi : i < ds.length) (hj : j < ds.length) (h : rank ds i = rank ds j) : i = j := by
 rcases Nat.lt_trichotomy i j with e | e | e
 ·
  rcases less_or hn hi hj (by omega) with h1 | h1
  ·
   have := rank_mono hi h1; omega
  have := rank_mono hj h1; omega
 ·
  exact e
 rcases less_or hn hi hj (by omega) with h1 | h1
 ·
  have := rank_mono hi h1; omega
 have := rank_mono hj h1; omega
/-- Those up to k stand where they should. -/
def Placed (ds : List Tn) (u : List Nat) (k : Nat) : Prop := u.length = ds.length ∧ ∀ i, i < k → u[rank ds i]? = some i
theorem Placed.zero (ds : List Tn) : Placed ds (List.replicate ds.length 0) 0 := ⟨by simp, fun i h => by omega⟩
theorem Placed.set {ds : List Tn} {u : List Nat} {k : Nat} (hn : (ids ds).Nodup) (h : Placed ds u k) (hk : k < ds.length) : Placed ds (u.set (rank ds k) k) (k + 1) := by
 refine ⟨by rw [List.length_set]; exact h.1, fun i hi => ?_⟩
 rw [List.getElem?_set]
 have hr := rank_lt hk
 by_cases e : rank ds k = rank ds i
 ·
  have : k = i := rank_inj hn hk (by omega) e
  subst this
  rw [if_pos rfl, if_pos (by rw [h.1]; exact hr)]
 rw [if_neg e]
 exact h.2 i (by
  rcases Nat.lt_or_ge i k with h | h
  ·
   exact h
  have : i = k := by omega
  subst this; exact absurd rfl e)
theorem perm_of_sub : ∀ {l u : List Nat}, l.Nodup → (∀ x ∈ l, x ∈ u) → u.length ≤ l.length → l.Perm u
 | [], u, _, _, h => by
  have : u = [] := List.length_eq_zero_iff.1 (by simpa using h)
  rw [this]
 | a :: l, u, hn, hs, h => by
  have ha := hs a (by simp)
  have hp := List.perm_cons_erase ha
  have hn2 := List.nodup_cons.1 hn
  refine (List.Perm.cons a (perm_of_sub hn2.2 (fun x hx => ?_) ?_)).trans hp.symm
  ·
   exact (List.mem_erase_of_ne (fun e => by subst e; exact hn2.1 hx)).2 (hs x (by simp [hx]))
  rw [List.length_erase_of_mem ha]; simp only [List.length_cons] at h; omega
theorem Placed.isOrd {ds : List Tn} {u : List Nat} (hn : (ids ds).Nodup) (h : Placed ds u ds.length) : IsOrd ds u := by
 have hsub : List.range ds.length ⊆ u := fun i hi => List.mem_of_getElem? (h.2 i (List.mem_range.1 hi))
 have hp : (List.range ds.length).Perm u := perm_of_sub List.nodup_range (fun x hx => hsub hx) (by rw [h.1, List.length_range]; exact Nat.le_refl _)
 have hnd : u.Nodup := hp.nodup_iff.1 List.nodup_range
 have hr : ∀ r (hr : r < u.length), rank ds u[r] = r := by
  intro r hr
  have hm : u[r] < ds.length := List.mem_range.1 (hp.mem_iff.2 (List.getElem_mem hr))
  obtain ⟨h1, h2⟩ := List.getElem?_eq_some_iff.1 (h.2 _ hm)
  exact (List.getElem_inj hnd).1 h2
 refine ⟨hp.symm, List.pairwise_iff_getElem.2 fun r s h1 h2 hrs => ?_⟩
 have m1 : u[r] < ds.length := List.mem_range.1 (hp.mem_iff.2 (List.getElem_mem h1))
 have m2 : u[s] < ds.length := List.mem_range.1 (hp.mem_iff.2 (List.getElem_mem h2))
 refine (less_or hn m1 m2 (fun e => ?_)).resolve_right fun h3 => ?_
 ·
  have := (List.getElem_inj hnd).1 e; omega
 have := rank_mono m2 h3
 rw [hr r h1, hr s h2] at this
 omega
/-- How many of the first j stand ahead of one. -/
def aheadTo (ds : List Tn) (i j : Nat) : Nat := (List.range j).countP fun k => decide (less (tAt ds k) (tAt ds i))
theorem aheadTo_succ (ds : List Tn) (i j : Nat) : aheadTo ds i (j + 1) = aheadTo ds i j + if less (tAt ds j) (tAt ds i) then 1 else 0 := by
 unfold aheadTo
 rw [List.range_succ, List.countP_append]
 simp [List.countP_cons]
theorem aheadTo_le (ds : List Tn) (i j : Nat) : aheadTo ds i j ≤ j := by
 unfold aheadTo
 exact Nat.le_trans List.countP_le_length (by simp)
end Go.Proofs.YtfcbjcohepkkfaaGreat.P
