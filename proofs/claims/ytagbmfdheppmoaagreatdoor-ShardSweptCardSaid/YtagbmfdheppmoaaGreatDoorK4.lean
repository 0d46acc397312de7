import Derived.Test.YtagbmfdheppmoaaGreatDoorK3
/-
  Tables as rising lists of keys and values; how a list on steps holds one.
-/
namespace Go.Proofs.YtagbmfdheppmoaaGreatDoor.B
open Go.RowKit Go.Proofs.YtagbmfdheppmoaaGreatDoor.Sep
set_option linter.unusedVariables false
set_option linter.unusedSimpArgs false
abbrev Rw := K × K
def kv (x : Nd) : Rw := (x.k, x.v)
def tput (t : List Rw) (k v : K) : List Rw := (t.filter fun x => decide (x.1 < k)) ++ (k, v) :: t.filter fun x => decide (k < x.1)
def tdel (t : List Rw) (k : K) : List Rw := t.filter fun x => !decide (x.1 = k)
def tget (t : List Rw) (k : K) : Option K := (t.find? fun x => decide (x.1 = k)).map (·.2)
def Rise (t : List Rw) : Prop := t.Pairwise fun x y => x.1 < y.1
theorem split_at {hd : Nd} {r : List Nd} (ok : SkOk (hd :: r)) {key : K} {q0 : Nat} (h : LastAt (hd :: r) key 0 q0) : (∀ x ∈ r.take q0, x.k < key) ∧ ∀ x ∈ r.drop q0, ¬ x.k < key := by
  obtain ⟨⟨y, a, b, c⟩, d⟩ := h
  refine ⟨fun x hx => ?_, fun x hx => ?_⟩
  · obtain ⟨i, hi⟩ := List.getElem?_of_mem hx
    rw [List.getElem?_take] at hi
    split at hi
    · rename_i hq
      have hi' : (hd :: r)[i + 1]? = some x := by simpa using hi
      rcases Nat.lt_or_ge (i + 1) q0 with e | e
      · exact klt_trans (ok.lt (by omega) e hi' a) (c.resolve_left (by omega))
      · have : i + 1 = q0 := by omega
        subst this; rw [a] at hi'; cases hi'; exact c.resolve_left (by omega)
    · cases hi
  · obtain ⟨i, hi⟩ := List.getElem?_of_mem hx
    rw [List.getElem?_drop] at hi
    have hi' : (hd :: r)[q0 + i + 1]? = some x := by simpa using hi
    exact d (q0 + i + 1) x (by omega) hi' (by have := (ok.step hi').1; omega)
theorem filt_split {α : Type} {p : α → Bool} {A B : List α} (h1 : ∀ x ∈ A, p x = true) (h2 : ∀ x ∈ B, p x = false) : (A ++ B).filter p = A := by
  rw [List.filter_append, List.filter_eq_self.2 h1, List.filter_eq_nil_iff.2 (fun x hx => by rw [h2 x hx]; decide), List.append_nil]
theorem filt_split2 {α : Type} {p : α → Bool} {A B : List α} (h1 : ∀ x ∈ A, p x = false) (h2 : ∀ x ∈ B, p x = true) : (A ++ B).filter p = B := by
  rw [List.filter_append, List.filter_eq_self.2 h2, List.filter_eq_nil_iff.2 (fun x hx => by rw [h1 x hx]; decide), List.nil_append]
theorem SkOk.mk' {hd : Nd} {r : List Nd} (h1 : hd.n = 16) (h2 : r.Pairwise fun x y => x.k < y.k) (h3 : ∀ x ∈ r, 1 ≤ x.n ∧ x.n ≤ 16) : SkOk (hd :: r) :=
  ⟨⟨hd, r, rfl, h1, h2⟩, fun x hx => by
    rcases List.mem_cons.1 hx with rfl | hx
    · rw [h1]; exact ⟨by decide, by decide⟩
    · exact h3 x hx⟩
theorem SkOk.hd16 {hd : Nd} {r : List Nd} (ok : SkOk (hd :: r)) : hd.n = 16 := by obtain ⟨h, r, e, h1, _⟩ := ok.head; cases e; exact h1
theorem SkOk.rise {hd : Nd} {r : List Nd} (ok : SkOk (hd :: r)) : Rise (r.map kv) := by
  unfold Rise
  rw [List.pairwise_map]
  exact ok.tail_lt
theorem fnd_none {r : List Nd} {key : K} (h : fnd r key = none) : ∀ x ∈ r, x.k ≠ key := fun x hx e => by
  have := List.find?_eq_none.1 h x hx
  simp [e] at this
theorem fnd_get {r : List Nd} {key : K} : tget (r.map kv) key = (fnd r key).map (·.v) := by
  unfold tget fnd
  rw [List.find?_map]
  rw [Option.map_map]
  rfl
/-! ### one more -/
theorem ins_ok {hd : Nd} {r : List Nd} (ok : SkOk (hd :: r)) {key : K} {q0 : Nat} (h : LastAt (hd :: r) key 0 q0) (hf : fnd r key = none) {x : Nd} (hk : x.k = key) (hn : 1 ≤ x.n ∧ x.n ≤ 16) :
    ∃ r', ins1 (hd :: r) q0 x = hd :: r' ∧ SkOk (hd :: r') ∧ r'.map kv = tput (r.map kv) key x.v ∧ r'.length = r.length + 1 := by
  obtain ⟨h1, h2⟩ := split_at ok h
  have h3 : ∀ y ∈ r.drop q0, key < y.k := fun y hy => klt_tri (h2 y hy) (fnd_none hf y (List.mem_of_mem_drop hy))
  have hq : q0 ≤ r.length := by obtain ⟨⟨y, a, _⟩, _⟩ := h; have := (List.getElem?_eq_some_iff.1 a).1; simp at this; omega
  have hr := List.take_append_drop q0 r
  refine ⟨r.take q0 ++ x :: r.drop q0, rfl, SkOk.mk' ok.hd16 ?_ ?_, ?_, ?_⟩
  · have hp := ok.tail_lt
    rw [← hr] at hp
    obtain ⟨p1, p2, p3⟩ := List.pairwise_append.1 hp
    refine List.pairwise_append.2 ⟨p1, List.pairwise_cons.2 ⟨fun y hy => hk ▸ h3 y hy, p2⟩, fun a ha b hb => ?_⟩
    rcases List.mem_cons.1 hb with rfl | hb
    · exact hk ▸ h1 a ha
    · exact p3 a ha b hb
  · intro y hy
    rcases List.mem_append.1 hy with hy | hy
    · exact ok.steps y (List.mem_cons_of_mem _ (List.mem_of_mem_take hy))
    · rcases List.mem_cons.1 hy with rfl | hy
      · exact hn
      · exact ok.steps y (List.mem_cons_of_mem _ (List.mem_of_mem_drop hy))
  · unfold tput
    have e : r.map kv = (r.take q0).map kv ++ (r.drop q0).map kv := by rw [← List.map_append, hr]
    rw [e, filt_split (p := fun x : Rw => decide (x.1 < key)) (fun y hy => ?_) (fun y hy => ?_), filt_split2 (p := fun x : Rw => decide (key < x.1)) (fun y hy => ?_) (fun y hy => ?_), List.map_append, List.map_cons]
    · simp [kv, hk]
    · obtain ⟨z, hz, rfl⟩ := List.mem_map.1 hy; exact decide_eq_false (klt_asymm (h1 z hz))
    · obtain ⟨z, hz, rfl⟩ := List.mem_map.1 hy; exact decide_eq_true (h3 z hz)
    · obtain ⟨z, hz, rfl⟩ := List.mem_map.1 hy; exact decide_eq_true (h1 z hz)
    · obtain ⟨z, hz, rfl⟩ := List.mem_map.1 hy; exact decide_eq_false (h2 z hz)
  · simp; omega
/-! ### one less, or another value -/
theorem mid {hd : Nd} {r : List Nd} (ok : SkOk (hd :: r)) {q : Nat} {x : Nd} (hx : r[q]? = some x) :
    r = r.take q ++ x :: r.drop (q + 1) ∧ (∀ y ∈ r.take q, y.k < x.k) ∧ ∀ y ∈ r.drop (q + 1), x.k < y.k := by
  obtain ⟨hq, e⟩ := List.getElem?_eq_some_iff.1 hx
  have e1 : r = r.take q ++ x :: r.drop (q + 1) := by
    have h1 := (List.take_append_drop q r).symm
    rw [List.drop_eq_getElem_cons hq, e] at h1; exact h1
  have hp := ok.tail_lt
  rw [e1] at hp
  obtain ⟨p1, p2, p3⟩ := List.pairwise_append.1 hp
  exact ⟨e1, fun y hy => p3 y hy x (List.mem_cons_self ..), (List.pairwise_cons.1 p2).1⟩
theorem put_ok {hd : Nd} {r : List Nd} (ok : SkOk (hd :: r)) {key val : K} {q : Nat} {x : Nd} (hx : r[q]? = some x) (hk : x.k = key) :
    SkOk (hd :: r.set q { x with v := val }) ∧ (r.set q { x with v := val }).map kv = tput (r.map kv) key val ∧ (r.set q { x with v := val }).length = r.length := by
  obtain ⟨e1, h1, h2⟩ := mid ok hx
  have hq := (List.getElem?_eq_some_iff.1 hx).1
  have es : r.set q { x with v := val } = r.take q ++ { x with v := val } :: r.drop (q + 1) := List.set_eq_take_append_cons_drop .. |>.trans (by rw [if_pos hq])
  refine ⟨SkOk.mk' ok.hd16 ?_ fun y hy => ?_, ?_, by simp⟩
  · have hp := ok.tail_lt
    rw [e1] at hp
    obtain ⟨p1, p2, p3⟩ := List.pairwise_append.1 hp
    rw [es]
    refine List.pairwise_append.2 ⟨p1, List.pairwise_cons.2 ⟨fun y hy => h2 y hy, (List.pairwise_cons.1 p2).2⟩, fun a ha b hb => ?_⟩
    rcases List.mem_cons.1 hb with rfl | hb
    · exact h1 a ha
    · exact p3 a ha b (List.mem_cons_of_mem _ hb)
  · rcases List.mem_or_eq_of_mem_set hy with hy | rfl
    · exact ok.steps y (List.mem_cons_of_mem _ hy)
    · exact ok.steps x (List.mem_cons_of_mem _ (List.mem_of_getElem? hx))
  · unfold tput
    have e : r.map kv = (r.take q).map kv ++ kv x :: (r.drop (q + 1)).map kv := by
      have := congrArg (List.map kv) e1
      rw [List.map_append, List.map_cons] at this; exact this
    rw [es, e, filt_split (p := fun x : Rw => decide (x.1 < key)) (A := (r.take q).map kv) (fun y hy => ?_) (fun y hy => ?_), show (r.take q).map kv ++ kv x :: (r.drop (q + 1)).map kv = ((r.take q).map kv ++ [kv x]) ++ (r.drop (q + 1)).map kv by simp,
      filt_split2 (p := fun x : Rw => decide (key < x.1)) (fun y hy => ?_) (fun y hy => ?_), List.map_append, List.map_cons]
    · simp [kv, hk]
    · rcases List.mem_append.1 hy with hy | hy
      · obtain ⟨z, hz, rfl⟩ := List.mem_map.1 hy; exact decide_eq_false (klt_asymm (hk ▸ h1 z hz))
      · simp at hy; subst hy; exact decide_eq_false (by show ¬ key < x.k; rw [hk]; exact klt_irrefl _)
    · obtain ⟨z, hz, rfl⟩ := List.mem_map.1 hy; exact decide_eq_true (hk ▸ h2 z hz)
    · obtain ⟨z, hz, rfl⟩ := List.mem_map.1 hy; exact decide_eq_true (hk ▸ h1 z hz)
    · rcases List.mem_cons.1 hy with rfl | hy
      · exact decide_eq_false (by show ¬ x.k < key; rw [hk]; exact klt_irrefl _)
      · obtain ⟨z, hz, rfl⟩ := List.mem_map.1 hy; exact decide_eq_false (klt_asymm (hk ▸ h2 z hz))
theorem del_ok {hd : Nd} {r : List Nd} (ok : SkOk (hd :: r)) {key : K} {q : Nat} {x : Nd} (hx : r[q]? = some x) (hk : x.k = key) :
    ∃ r', del1 (hd :: r) (q + 1) = hd :: r' ∧ SkOk (hd :: r') ∧ r'.map kv = tdel (r.map kv) key ∧ r'.length + 1 = r.length := by
  obtain ⟨e1, h1, h2⟩ := mid ok hx
  have hq := (List.getElem?_eq_some_iff.1 hx).1
  refine ⟨r.take q ++ r.drop (q + 1), rfl, SkOk.mk' ok.hd16 ?_ fun y hy => ?_, ?_, by simp; omega⟩
  · have hp := ok.tail_lt
    rw [e1] at hp
    obtain ⟨p1, p2, p3⟩ := List.pairwise_append.1 hp
    exact List.pairwise_append.2 ⟨p1, (List.pairwise_cons.1 p2).2, fun a ha b hb => p3 a ha b (List.mem_cons_of_mem _ hb)⟩
  · rcases List.mem_append.1 hy with hy | hy
    · exact ok.steps y (List.mem_cons_of_mem _ (List.mem_of_mem_take hy))
    · exact ok.steps y (List.mem_cons_of_mem _ (List.mem_of_mem_drop hy))
  · unfold tdel
    have e : r.map kv = (r.take q).map kv ++ kv x :: (r.drop (q + 1)).map kv := by
      have := congrArg (List.map kv) e1
      rw [List.map_append, List.map_cons] at this; exact this
    rw [e, List.filter_append, List.filter_cons_of_neg (by simp [kv, hk]), List.filter_eq_self.2 fun y hy => ?_, List.filter_eq_self.2 fun y hy => ?_, List.map_append]
    · obtain ⟨z, hz, rfl⟩ := List.mem_map.1 hy
      have := h2 z hz
      rw [Bool.not_eq_true']
      refine decide_eq_false fun (e : z.k = key) => ?_
      rw [e, hk] at this; exact klt_irrefl _ this
    · obtain ⟨z, hz, rfl⟩ := List.mem_map.1 hy
      have := h1 z hz
      rw [Bool.not_eq_true']
      refine decide_eq_false fun (e : z.k = key) => ?_
      rw [e, hk] at this; exact klt_irrefl _ this
/-! ### another value, in memory -/
theorem nxt_set {i : Nat} {x y : Nd} (hg : y.g = x.g) (hn : y.n = x.n) : ∀ {r : List Nd} {q : Nat}, r[q]? = some x → nxt i (r.set q y) = nxt i r
  | [], q, h => by simp at h
  | z :: r, 0, h => by simp at h; subst h; simp [nxt, hg, hn]
  | z :: r, q + 1, h => by
    have h : r[q]? = some x := by simpa using h
    simp only [List.set_cons_succ, nxt, nxt_set hg hn h]
theorem nxt_drop_set {l : List Nd} {p : Nat} {x y : Nd} (hx : l[p]? = some x) (hg : y.g = x.g) (hn : y.n = x.n) (i q : Nat) : nxt i ((l.set p y).drop (q + 1)) = nxt i (l.drop (q + 1)) := by
  rw [List.drop_set]
  split
  · rfl
  · rename_i h2
    exact nxt_set hg hn (by rw [List.getElem?_drop, show q + 1 + (p - (q + 1)) = p by omega]; exact hx)
theorem canon_set {l : List Nd} {p : Nat} {x y : Nd} (hx : l[p]? = some x) (hg : y.g = x.g) (hn : y.n = x.n) : canon (l.set p y) = canon l := by
  funext q i
  unfold canon
  have hp := (List.getElem?_eq_some_iff.1 hx).1
  rw [nxt_drop_set hx hg hn]
  by_cases hq : q = p
  · subst hq
    rw [List.getElem?_set_self hp, hx]
    simp only [hn]
  · rw [List.getElem?_set_ne (fun e => hq e.symm)]
theorem rowsF_setv {F : Nat → Nat → Option Nat} {x : Nd} {v : K} : ∀ {l : List Nd} {p q : Nat}, l[p]? = some x → (rowsF F q l).set p (x.g, putAt (ncF x (F (q + p))) 1 [.string (str v)]) = rowsF F q (l.set p { x with v := v })
  | [], p, q, h => by simp at h
  | z :: l, 0, q, h => by simp at h; subst h; rfl
  | z :: l, p + 1, q, h => by
    have h : l[p]? = some x := by simpa using h
    show (z.g, ncF z (F q)) :: (rowsF F (q + 1) l).set p _ = (z.g, ncF z (F q)) :: rowsF F (q + 1) (l.set p _)
    rw [← rowsF_setv h, show q + 1 + p = q + (p + 1) by omega]
end Go.Proofs.YtagbmfdheppmoaaGreatDoor.B
