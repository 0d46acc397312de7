import Derived.Test.YtagbmfdheppmoaaGreatDoorSepX
import Derived.Test.YtagbmfdheppmoaaGreatDoorSepK
import Derived.Test.YtagbmfdheppmoaaGreatDoorSepO
import Derived.Test.YtagbmfdheppmoaaGreatDoorProg
import Derived.KernelRfl
/-
  How an ordered list on steps lies in memory: nodes, each with its key, value, steps, and the next one of each step.
-/
namespace Go.Proofs.YtagbmfdheppmoaaGreatDoor.Sep
open Go.RowKit
set_option linter.unusedVariables false
set_option linter.unusedSimpArgs false
section
variable {P : Program} {w W : World} {L : List Chunk} {o : Oper} {E : Env}
/-- Rows of one type, of any number. -/
def bch (t : TypeId) (x : Nat × List Value) : Chunk := .blk x.1 x.2 t
def Bs (t : TypeId) (rows : List (Nat × List Value)) : Chunk := star (rows.map (bch t))
theorem St.bs_iff {t : TypeId} {rows : List (Nat × List Value)} : St W (Bs t rows :: L) w ↔ St W (rows.map (bch t) ++ L) w :=
  ⟨fun s => ⟨Sat.star_iff.1 s.1, s.2⟩, fun s => ⟨Sat.star_iff.2 s.1, s.2⟩⟩
theorem bs_idx {t : TypeId} {rows : List (Nat × List Value)} {p g : Nat} {cs : List Value} (h : rows[p]? = some (g, cs)) : (rows.map (bch t) ++ L)[p]? = some (.blk g cs t) := by
  have hp := (List.getElem?_eq_some_iff.1 h).1
  rw [List.getElem?_append_left (by simpa using hp), List.getElem?_map, h]
  rfl
theorem bs_at {t : TypeId} {rows : List (Nat × List Value)} {p g : Nat} {cs : List Value} (h : rows[p]? = some (g, cs)) : Knows (Bs t rows :: L) (BlkIs g cs) := fun w s => by
  have st : St w (Bs t rows :: L) w := ⟨s, Ext.refl w⟩
  exact (St.bs_iff.1 st).blkIs p (bs_idx h)
theorem ex_storeB {t : TypeId} {x y : Operand} {g of_ : Nat} {cs : List Value} {t' : TypeId} {n : Nat} {rows : List (Nat × List Value)} (p : Nat) (vs : List Value) (s : St W (Bs t' rows :: L) w) (hp : rows[p]? = some (g, cs)) (ho : o.op = .store t x y) (hx : evalE E x = .pointer (some ⟨g, of_, none⟩)) (hy : (evalE E y).cells = vs.toArray)
    (hz : (sizeOf t).run P w = .ok n w) (hl : vs.length = n) (h1 : ∀ v ∈ vs, v.oneCell' = true) (hn : of_ + vs.length ≤ cs.length) :
    ∃ w1, (execOp (evalE E) o).run P w = .ok .skip w1 ∧ St W (Bs t' (rows.set p (g, putAt cs of_ vs)) :: L) w1 := by
  have hpl := (List.getElem?_eq_some_iff.1 hp).1
  obtain ⟨w1, hr, s1⟩ := ex_store (P := P) (E := E) p vs (St.bs_iff.1 s) (bs_idx hp) ho hx hy hz hl h1 hn
  refine ⟨w1, hr, St.bs_iff.2 ?_⟩
  rw [List.set_append_left _ _ (by simpa using hpl)] at s1
  rw [List.map_set]
  exact s1
theorem bs_perm {t : TypeId} {rows rows' : List (Nat × List Value)} (s : St W (Bs t rows :: L) w) (h : rows.Perm rows') : St W (Bs t rows' :: L) w :=
  St.bs_iff.2 ((St.bs_iff.1 s).perm ((h.map _).append_right _))
theorem bs_add {t : TypeId} {rows : List (Nat × List Value)} {g : Nat} {cs : List Value} (s : St W (.blk g cs t :: Bs t rows :: L) w) : St W (Bs t ((g, cs) :: rows) :: L) w := by
  have h1 : St W (Bs t rows :: .blk g cs t :: L) w := s.perm (List.Perm.swap ..)
  have h2 := (St.bs_iff.1 h1).perm List.perm_middle
  exact St.bs_iff.2 h2
theorem bs_tail {t : TypeId} {rows : List (Nat × List Value)} {x : Nat × List Value} (s : St W (Bs t (x :: rows) :: L) w) : St W (Bs t rows :: L) w :=
  St.bs_iff.2 (St.bs_iff.1 s).tail
end
end Go.Proofs.YtagbmfdheppmoaaGreatDoor.Sep
namespace Go.Proofs.YtagbmfdheppmoaaGreatDoor.B
open Go.RowKit Go.Proofs.YtagbmfdheppmoaaGreatDoor.Sep
set_option linter.unusedVariables false
set_option linter.unusedSimpArgs false
abbrev K := List UInt8
theorem klt_irrefl (a : K) : ¬ a < a := by grind
theorem klt_trans {a b c : K} (h : a < b) (k : b < c) : a < c := by grind
theorem klt_asymm {a b : K} (h : a < b) : ¬ b < a := by grind
theorem klt_tri {a b : K} (h : ¬ a < b) (k : ¬ a = b) : b < a := by grind
structure Nd where
  k : List UInt8
  v : List UInt8
  n : Nat
  g : Nat
/-- The block of the first one that stands on step i. -/
def nxt (i : Nat) : List Nd → Option Nat
  | [] => none
  | x :: r => if i < x.n then some x.g else nxt i r
def ptrO (o : Option Nat) : Value := .pointer (o.map fun g => ⟨g, 0, none⟩)
/-- A node's cells, with what is next on each step. -/
def ncF (x : Nd) (f : Nat → Option Nat) : List Value := .string (str x.k) :: .string (str x.v) :: .int .i64 (x.n : Int) :: (List.range 16).map fun i => ptrO (f i)
def rowsF (F : Nat → Nat → Option Nat) : Nat → List Nd → List (Nat × List Value)
  | _, [] => []
  | q, x :: r => (x.g, ncF x (F q)) :: rowsF F (q + 1) r
def canon (l : List Nd) : Nat → Nat → Option Nat := fun q i => match l[q]? with | some x => if i < x.n then nxt i (l.drop (q + 1)) else none | none => none
/-- The nodes, the first one of which stands ahead of all. -/
abbrev SkF (l : List Nd) (F : Nat → Nat → Option Nat) : Chunk := Bs 181 (rowsF F 0 l)
abbrev Sk (l : List Nd) : Chunk := SkF l (canon l)
theorem rowsF_len {F : Nat → Nat → Option Nat} : ∀ {l : List Nd} {q : Nat}, (rowsF F q l).length = l.length
  | [], q => rfl
  | x :: r, q => by show (rowsF F (q + 1) r).length + 1 = _; rw [rowsF_len]; rfl
theorem rowsF_at {F : Nat → Nat → Option Nat} : ∀ {l : List Nd} {q p : Nat} {x : Nd}, l[p]? = some x → (rowsF F q l)[p]? = some (x.g, ncF x (F (q + p)))
  | [], q, p, x, h => by simp at h
  | y :: r, q, 0, x, h => by simp at h; subst h; rfl
  | y :: r, q, p + 1, x, h => by
    have h : r[p]? = some x := by simpa using h
    show (rowsF F (q + 1) r)[p]? = _
    rw [rowsF_at h, show q + 1 + p = q + (p + 1) by omega]
theorem rowsF_congr {F G : Nat → Nat → Option Nat} : ∀ {l : List Nd} {q q' : Nat}, (∀ (p i : Nat) (x : Nd), l[p]? = some x → i < 16 → F (q + p) i = G (q' + p) i) → rowsF F q l = rowsF G q' l
  | [], q, q', h => rfl
  | y :: r, q, q', h => by
    show (y.g, ncF y (F q)) :: rowsF F (q + 1) r = (y.g, ncF y (G q')) :: rowsF G (q' + 1) r
    have e1 : ncF y (F q) = ncF y (G q') := by
      show (Value.string (str y.k) :: .string (str y.v) :: .int .i64 (y.n : Int) :: (List.range 16).map fun i => ptrO (F q i)) = (Value.string (str y.k) :: .string (str y.v) :: .int .i64 (y.n : Int) :: (List.range 16).map fun i => ptrO (G q' i))
      congr 3
      refine List.map_congr_left fun i hi => ?_
      have h0 : F q i = G q' i := h 0 i y rfl (by simpa using hi)
      rw [h0]
    rw [e1, rowsF_congr (q := q + 1) (q' := q' + 1) fun p i x hx hi => by
      have := h (p + 1) i x (by simpa using hx) hi
      rw [show q + 1 + p = q + (p + 1) by omega, show q' + 1 + p = q' + (p + 1) by omega]
      exact this]
/-- What is next on step i of place p becomes another one. -/
def updF (F : Nat → Nat → Option Nat) (p i : Nat) (o : Option Nat) : Nat → Nat → Option Nat := fun q j => if q = p ∧ j = i then o else F q j
theorem putAt1 {v : Value} : ∀ {cs : List Value} {o : Nat}, putAt cs o [v] = cs.set o v := by
  intro cs o
  simp [putAt]
theorem ncF_put {x : Nd} {f : Nat → Option Nat} {i : Nat} {o : Option Nat} (hi : i < 16) : putAt (ncF x f) (3 + i) [ptrO o] = ncF x fun j => if j = i then o else f j := by
  apply List.ext_getElem?
  intro n
  rw [putAt1, show 3 + i = i + 1 + 1 + 1 by omega]
  match n with
  | 0 => simp [ncF]
  | 1 => simp [ncF]
  | 2 => simp [ncF]
  | n + 3 =>
    simp only [ncF, List.set_cons_succ, List.getElem?_cons_succ, List.getElem?_set, List.length_map, List.length_range, List.getElem?_map]
    by_cases hn : i = n
    · subst hn
      simp [hi]
    · rw [if_neg hn]
      by_cases h2 : n < 16
      · simp [h2, Ne.symm hn]
      · simp [h2]
theorem rowsF_set {F : Nat → Nat → Option Nat} {l : List Nd} {p i : Nat} {x : Nd} {o : Option Nat} (h : l[p]? = some x) (hi : i < 16) : (rowsF F 0 l).set p (x.g, putAt (ncF x (F p)) (3 + i) [ptrO o]) = rowsF (updF F p i o) 0 l := by
  rw [ncF_put hi]
  apply List.ext_getElem?
  intro q
  have hp := (List.getElem?_eq_some_iff.1 h).1
  by_cases hq : q < l.length
  · have e : l[q]? = some l[q] := List.getElem?_eq_getElem hq
    rw [rowsF_at e, List.getElem?_set]
    by_cases hpq : p = q
    · subst hpq
      rw [e] at h; cases h
      rw [if_pos rfl, if_pos (by rw [rowsF_len]; exact hq)]
      have : (fun j => if j = i then o else F p j) = updF F p i o (0 + p) := by
        funext j; simp [updF]
      rw [this]
    · rw [if_neg hpq, rowsF_at e]
      have : (fun j => F (0 + q) j) = fun j => updF F p i o (0 + q) j := by
        funext j; simp only [updF, Nat.zero_add]; rw [if_neg (fun hh => hpq hh.1.symm)]
      show some (l[q].g, ncF l[q] (fun j => F (0 + q) j)) = some (l[q].g, ncF l[q] (fun j => updF F p i o (0 + q) j))
      rw [this]
  · rw [List.getElem?_eq_none (by rw [List.length_set, rowsF_len]; omega), List.getElem?_eq_none (by rw [rowsF_len]; omega)]
theorem ncF_key (x : Nd) (f : Nat → Option Nat) : (ncF x f)[0]? = some (.string (str x.k)) := rfl
theorem ncF_val (x : Nd) (f : Nat → Option Nat) : (ncF x f)[1]? = some (.string (str x.v)) := rfl
theorem ncF_steps (x : Nd) (f : Nat → Option Nat) : (ncF x f)[2]? = some (.int .i64 (x.n : Int)) := rfl
theorem ncF_next (x : Nd) (f : Nat → Option Nat) {i : Nat} (hi : i < 16) : (ncF x f)[3 + i]? = some (ptrO (f i)) := by
  rw [show 3 + i = i + 1 + 1 + 1 by omega]
  simp [ncF, hi]
theorem ncF_len (x : Nd) (f : Nat → Option Nat) : (ncF x f).length = 19 := by simp [ncF]
/-! ### the plain side: nodes below a key -/
/-- What is next on a step, told by its place. -/
theorem nxt_cases (i : Nat) (l : List Nd) (p : Nat) :
    (nxt i (l.drop (p + 1)) = none ∧ ∀ (q : Nat) (z : Nd), p < q → l[q]? = some z → ¬ i < z.n) ∨
    ∃ (q : Nat) (y : Nd), p < q ∧ l[q]? = some y ∧ i < y.n ∧ nxt i (l.drop (p + 1)) = some y.g ∧ ∀ (q' : Nat) (z : Nd), p < q' → q' < q → l[q']? = some z → ¬ i < z.n := by
  have key : ∀ r : List Nd, (nxt i r = none ∧ ∀ (q : Nat) (z : Nd), r[q]? = some z → ¬ i < z.n) ∨ ∃ (q : Nat) (y : Nd), r[q]? = some y ∧ i < y.n ∧ nxt i r = some y.g ∧ ∀ (q' : Nat) (z : Nd), q' < q → r[q']? = some z → ¬ i < z.n := by
    intro r
    induction r with
    | nil => exact .inl ⟨rfl, fun q z h => by simp at h⟩
    | cons x r ih =>
      by_cases hx : i < x.n
      · exact .inr ⟨0, x, rfl, hx, by simp [nxt, hx], fun q' z hq => absurd hq (Nat.not_lt_zero _)⟩
      · have e : nxt i (x :: r) = nxt i r := by simp [nxt, hx]
        rcases ih with ⟨h1, h2⟩ | ⟨q, y, h1, h2, h3, h4⟩
        · refine .inl ⟨e.trans h1, fun q z hz => ?_⟩
          cases q with
          | zero => simp at hz; subst hz; exact hx
          | succ q => exact h2 q z (by simpa using hz)
        · refine .inr ⟨q + 1, y, by simpa using h1, h2, e.trans h3, fun q' z hq hz => ?_⟩
          cases q' with
          | zero => simp at hz; subst hz; exact hx
          | succ q' => exact h4 q' z (by omega) (by simpa using hz)
  rcases key (l.drop (p + 1)) with ⟨h1, h2⟩ | ⟨q, y, h1, h2, h3, h4⟩
  · exact .inl ⟨h1, fun q z hq hz => h2 (q - (p + 1)) z (by rw [List.getElem?_drop, show p + 1 + (q - (p + 1)) = q by omega]; exact hz)⟩
  · refine .inr ⟨p + 1 + q, y, by omega, by rw [← List.getElem?_drop]; exact h1, h2, h3, fun q' z hq hq2 hz => h4 (q' - (p + 1)) z (by omega) (by rw [List.getElem?_drop, show p + 1 + (q' - (p + 1)) = q' by omega]; exact hz)⟩
/-- Keys rise; the first one stands ahead. -/
structure SkOk (l : List Nd) : Prop where
  head : ∃ h r, l = h :: r ∧ h.n = 16 ∧ r.Pairwise (fun x y => x.k < y.k)
  steps : ∀ x ∈ l, 1 ≤ x.n ∧ x.n ≤ 16
theorem SkOk.lt {l : List Nd} (h : SkOk l) {p q : Nat} {x y : Nd} (hp : 0 < p) (hpq : p < q) (hx : l[p]? = some x) (hy : l[q]? = some y) : x.k < y.k := by
  obtain ⟨a, r, rfl, _, hr⟩ := h.head
  obtain ⟨p, rfl⟩ : ∃ p', p = p' + 1 := ⟨p - 1, by omega⟩
  obtain ⟨q, rfl⟩ : ∃ q', q = q' + 1 := ⟨q - 1, by omega⟩
  have hx : r[p]? = some x := by simpa using hx
  have hy : r[q]? = some y := by simpa using hy
  obtain ⟨h1, rfl⟩ := List.getElem?_eq_some_iff.1 hx
  obtain ⟨h2, rfl⟩ := List.getElem?_eq_some_iff.1 hy
  exact List.pairwise_iff_getElem.1 hr p q h1 h2 (by omega)
theorem SkOk.step {l : List Nd} (h : SkOk l) {p : Nat} {x : Nd} (hx : l[p]? = some x) : 1 ≤ x.n ∧ x.n ≤ 16 := h.steps x (List.mem_of_getElem? hx)
/-- The place of the last one ahead of a key that stands on a step: it is p. -/
def LastAt (l : List Nd) (key : List UInt8) (i p : Nat) : Prop :=
  (∃ x, l[p]? = some x ∧ i < x.n ∧ (p = 0 ∨ x.k < key)) ∧ ∀ (q : Nat) (y : Nd), p < q → l[q]? = some y → i < y.n → ¬ y.k < key
theorem LastAt.uniq {l : List Nd} {key : List UInt8} {i p q : Nat} (h : LastAt l key i p) (k : LastAt l key i q) : p = q := by
  obtain ⟨⟨x, h1, h2, h3⟩, h4⟩ := h
  obtain ⟨⟨y, k1, k2, k3⟩, k4⟩ := k
  rcases Nat.lt_trichotomy p q with c | c | c
  · rcases k3 with k3 | k3
    · omega
    · exact absurd k3 (h4 q y c k1 k2)
  · exact c
  · rcases h3 with h3 | h3
    · omega
    · exact absurd h3 (k4 p x c h1 h2)
theorem LastAt.none {l : List Nd} {key : List UInt8} {i p : Nat} {x : Nd} (hx : l[p]? = some x) (hn : i < x.n) (hk : p = 0 ∨ x.k < key) (h : ∀ (q : Nat) (z : Nd), p < q → l[q]? = some z → ¬ i < z.n) : LastAt l key i p :=
  ⟨⟨x, hx, hn, hk⟩, fun q y hq hy hi => absurd hi (h q y hq hy)⟩
theorem LastAt.ge {l : List Nd} (ok : SkOk l) {key : List UInt8} {i p q : Nat} {x y : Nd} (hx : l[p]? = some x) (hn : i < x.n) (hk : p = 0 ∨ x.k < key) (hq : p < q) (hy : l[q]? = some y) (hyk : ¬ y.k < key) (h : ∀ (q' : Nat) (z : Nd), p < q' → q' < q → l[q']? = some z → ¬ i < z.n) : LastAt l key i p := by
  refine ⟨⟨x, hx, hn, hk⟩, fun q' z hq' hz hi hlt => ?_⟩
  rcases Nat.lt_trichotomy q' q with c | c | c
  · exact h q' z hq' c hz hi
  · subst c; rw [hy] at hz; cases hz; exact hyk hlt
  · exact hyk (klt_trans (ok.lt (by omega) c hy hz) hlt)
theorem canon_at {l : List Nd} {p i : Nat} {x : Nd} (h : l[p]? = some x) (hi : i < x.n) : canon l p i = nxt i (l.drop (p + 1)) := by simp [canon, h, hi]
theorem sk_at {L : List Chunk} {l : List Nd} {p : Nat} {x : Nd} (h : l[p]? = some x) : Knows (Sk l :: L) (BlkIs x.g (ncF x (canon l p))) := by
  have := rowsF_at (F := canon l) (q := 0) h
  rw [Nat.zero_add] at this
  exact bs_at this
end Go.Proofs.YtagbmfdheppmoaaGreatDoor.B
