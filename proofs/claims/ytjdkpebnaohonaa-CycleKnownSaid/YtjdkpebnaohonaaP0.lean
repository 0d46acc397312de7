import Derived.Test.YtjdkpebnaohonaaSepG
/-
  The plain law of rings: ways along edges; the edges by their first ends; a search that goes on till nothing is left to do.
-/
namespace Go.Proofs.Ytjdkpebnaohonaa.P
open Go.Proofs.Ytjdkpebnaohonaa.Sep
set_option linter.unusedVariables false
abbrev Arc := Int × Int
inductive Way (E : List Arc) : Int → Int → Prop
  | one {a b : Int} : (a, b) ∈ E → Way E a b
  | step {a b c : Int} : (a, b) ∈ E → Way E b c → Way E a c
theorem Way.snoc {E : List Arc} {a b c : Int} (h : Way E a b) (e : (b, c) ∈ E) : Way E a c := by
  induction h with
  | one h => exact .step h (.one e)
  | step h _ ih => exact .step h (ih e)
theorem Way.trans {E : List Arc} {a b c : Int} (h : Way E a b) (k : Way E b c) : Way E a c := by
  induction h with
  | one h => exact .step h k
  | step h _ ih => exact .step h (ih k)
theorem Way.first {E : List Arc} {a b : Int} (h : Way E a b) : ∃ c, (a, c) ∈ E := by cases h <;> exact ⟨_, by assumption⟩
theorem Way.last {E : List Arc} {a b : Int} (h : Way E a b) : ∃ c, (c, b) ∈ E := by
  induction h with
  | one h => exact ⟨_, h⟩
  | step _ _ ih => exact ih
theorem Way.mono {E F : List Arc} (hs : ∀ e ∈ E, e ∈ F) {a b : Int} (h : Way E a b) : Way F a b := by
  induction h with
  | one h => exact .one (hs _ h)
  | step h _ ih => exact .step (hs _ h) ih

/-- The second ends of the edges that begin at a. -/
def outs (E : List Arc) (a : Int) : List Int := (E.filter fun e => decide (e.1 = a)).map (·.2)
theorem mem_outs {E : List Arc} {a b : Int} : b ∈ outs E a ↔ (a, b) ∈ E := by
  unfold outs
  constructor
  · intro h
    obtain ⟨e, he, rfl⟩ := List.mem_map.1 h
    obtain ⟨h1, h2⟩ := List.mem_filter.1 he
    have : e.1 = a := by simpa using h2
    rw [← this]; exact h1
  · intro h; exact List.mem_map.2 ⟨(a, b), List.mem_filter.2 ⟨h, by simp⟩, rfl⟩
def put1 (D : List (Int × List Int)) (e : Arc) : List (Int × List Int) := mput D e.1 ((mget D e.1).getD [] ++ [e.2])
def grp (E : List Arc) : List (Int × List Int) := E.foldl put1 []
theorem mget_foldl (E : List Arc) : ∀ (D : List (Int × List Int)) (a : Int), mget (E.foldl put1 D) a = if outs E a = [] then mget D a else some ((mget D a).getD [] ++ outs E a) := by
  induction E with
  | nil => intro D a; rfl
  | cons e E ih =>
    intro D a
    rw [List.foldl_cons, ih, put1, mget_mput]
    by_cases h : a = e.1
    · have ho : outs (e :: E) a = e.2 :: outs E a := by unfold outs; rw [List.filter_cons_of_pos (by simp [h])]; rfl
      rw [ho, if_pos h]
      subst h
      by_cases h2 : outs E e.1 = [] <;> simp [h2]
    · have ho : outs (e :: E) a = outs E a := by unfold outs; rw [List.filter_cons_of_neg (by simp; exact Ne.symm h)]
      rw [ho, if_neg h]
theorem mget_grp (E : List Arc) (a : Int) : mget (grp E) a = if outs E a = [] then none else some (outs E a) := by
  rw [grp, mget_foldl]; simp [mget]
theorem grp_get (E : List Arc) (a : Int) : (mget (grp E) a).getD [] = outs E a := by
  rw [mget_grp]; split <;> simp_all
theorem grp_snoc {E : List Arc} {i : Nat} {e : Arc} (h : E[i]? = some e) : grp (E.take (i + 1)) = put1 (grp (E.take i)) e := by
  obtain ⟨hi, rfl⟩ := List.getElem?_eq_some_iff.1 h
  rw [grp, List.take_succ_eq_append_getElem hi, List.foldl_append]; rfl
theorem grp_key {E : List Arc} {a : Int} : a ∈ (grp E).map (·.1) ↔ ∃ b, (a, b) ∈ E := by
  rw [← mget_isSome, mget_grp]
  constructor
  · intro h
    split at h
    · cases h
    · rename_i h2
      obtain ⟨b, hb⟩ := List.exists_mem_of_ne_nil _ h2
      exact ⟨b, mem_outs.1 hb⟩
  · rintro ⟨b, hb⟩
    have := mem_outs.2 hb
    rw [if_neg (fun h => by rw [h] at this; cases this)]; rfl
theorem outs_take_le (E : List Arc) (a : Int) : (outs E a).length ≤ E.length := by
  unfold outs; rw [List.length_map]; exact List.length_filter_le _ _

/-- The rings of edges, as a list that rises. -/
structure RingsOf (E : List Arc) (R : List Int) : Prop where
  rise : R.Pairwise (· < ·)
  mem : ∀ a, a ∈ R ↔ Way E a a
theorem rise_unique : ∀ {R S : List Int}, R.Pairwise (· < ·) → S.Pairwise (· < ·) → (∀ a, a ∈ R ↔ a ∈ S) → R = S
  | [], [], _, _, _ => rfl
  | [], b :: S, _, _, h => absurd ((h b).2 (by simp)) (by simp)
  | a :: R, [], _, _, h => absurd ((h a).1 (by simp)) (by simp)
  | a :: R, b :: S, hR, hS, h => by
    obtain ⟨r1, r2⟩ := List.pairwise_cons.1 hR
    obtain ⟨s1, s2⟩ := List.pairwise_cons.1 hS
    have e : a = b := by
      rcases List.mem_cons.1 ((h a).1 (by simp)) with e | e
      · exact e
      · rcases List.mem_cons.1 ((h b).2 (by simp)) with e' | e'
        · exact e'.symm
        · have := s1 a e; have := r1 b e'; omega
    subst e
    rw [rise_unique r2 s2 fun x => ?_]
    constructor
    · intro hx
      rcases List.mem_cons.1 ((h x).1 (by simp [hx])) with e | e
      · subst e; have := r1 x hx; omega
      · exact e
    · intro hx
      rcases List.mem_cons.1 ((h x).2 (by simp [hx])) with e | e
      · subst e; have := s1 x hx; omega
      · exact e
theorem RingsOf.unique {E : List Arc} {R S : List Int} (h : RingsOf E R) (k : RingsOf E S) : R = S := rise_unique h.rise k.rise fun a => by rw [h.mem, k.mem]

/-- A search from id: S is seen, T is to be looked at. -/
structure Dfs (E : List Arc) (id : Int) (S T : List Int) : Prop where
  todo : ∀ x ∈ T, Way E id x
  seen : ∀ x ∈ S, Way E id x
  from0 : ∀ b, (id, b) ∈ E → b ∈ S ∨ b ∈ T
  next : ∀ x ∈ S, ∀ y, (x, y) ∈ E → y ∈ S ∨ y ∈ T
  other : id ∉ S
theorem Dfs.start (E : List Arc) (id : Int) : Dfs E id [] (outs E id) :=
  ⟨fun x h => .one (mem_outs.1 h), by simp, fun b h => .inr (mem_outs.2 h), by simp, by simp⟩
theorem Dfs.skip {E : List Arc} {id x : Int} {S T : List Int} (d : Dfs E id S (T ++ [x])) (h : x ∈ S) : Dfs E id S T := by
  have m : ∀ y, y ∈ S ∨ y ∈ T ++ [x] → y ∈ S ∨ y ∈ T := by
    rintro y (h2 | h2)
    · exact .inl h2
    · rcases List.mem_append.1 h2 with h2 | h2
      · exact .inr h2
      · have : y = x := by simpa using h2
        subst this; exact .inl h
  exact ⟨fun y hy => d.todo y (by simp [hy]), d.seen, fun b hb => m b (d.from0 b hb), fun y hy z hz => m z (d.next y hy z hz), d.other⟩
theorem Dfs.push {E : List Arc} {id x : Int} {S T : List Int} (d : Dfs E id S (T ++ [x])) (h : x ≠ id) : Dfs E id (S ++ [x]) (T ++ outs E x) := by
  have hx : Way E id x := d.todo x (by simp)
  have m : ∀ y, y ∈ S ∨ y ∈ T ++ [x] → y ∈ S ++ [x] ∨ y ∈ T ++ outs E x := by
    rintro y (h2 | h2)
    · exact .inl (by simp [h2])
    · rcases List.mem_append.1 h2 with h2 | h2
      · exact .inr (by simp [h2])
      · exact .inl (List.mem_append.2 (.inr h2))
  refine ⟨fun y hy => ?_, fun y hy => ?_, fun b hb => m b (d.from0 b hb), fun y hy z hz => ?_, fun hc => ?_⟩
  · rcases List.mem_append.1 hy with hy | hy
    · exact d.todo y (by simp [hy])
    · exact hx.snoc (mem_outs.1 hy)
  · rcases List.mem_append.1 hy with hy | hy
    · exact d.seen y hy
    · have : y = x := by simpa using hy
      subst this; exact hx
  · rcases List.mem_append.1 hy with hy | hy
    · exact m z (d.next y hy z hz)
    · have : y = x := by simpa using hy
      subst this
      exact .inr (by simp [mem_outs.2 hz])
  · rcases List.mem_append.1 hc with hc | hc
    · exact d.other hc
    · have : id = x := by simpa using hc
      exact h this.symm
theorem Dfs.done {E : List Arc} {id : Int} {S : List Int} (d : Dfs E id S []) : ¬ Way E id id := by
  have k : ∀ a b, Way E a b → a = id ∨ a ∈ S → b ∈ S := by
    intro a b h
    have m : ∀ a b, (a, b) ∈ E → a = id ∨ a ∈ S → b ∈ S := by
      rintro a b e (rfl | h)
      · exact (d.from0 b e).resolve_right (by simp)
      · exact (d.next a h b e).resolve_right (by simp)
    induction h with
    | one e => exact m _ _ e
    | step e _ ih => exact fun h => ih (.inr (m _ _ e h))
  exact fun h => d.other (k id id h (.inl rfl))
/-- How much is left. -/
def left_ (E : List Arc) (S : List Int) : Nat := (E.filter fun e => decide (e.1 ∉ S)).length
theorem left_push {E : List Arc} {S : List Int} {x : Int} (h : x ∉ S) : left_ E (S ++ [x]) + (outs E x).length = left_ E S := by
  unfold left_ outs
  rw [List.length_map]
  induction E with
  | nil => rfl
  | cons e E ih =>
    simp only [List.filter_cons]
    by_cases h1 : e.1 = x
    · have h2 : e.1 ∉ S := by rw [h1]; exact h
      simp [h1, h, List.mem_append] at ih ⊢; omega
    · by_cases h2 : e.1 ∈ S
      · simp [h1, h2, List.mem_append] at ih ⊢; omega
      · simp [h1, h2, List.mem_append] at ih ⊢; omega
theorem left_le (E : List Arc) (S : List Int) : left_ E S ≤ E.length := List.length_filter_le _ _
def seenV (S : List Int) (x : Int) : Int := if x ∈ S then 1 else 0
theorem seenV_zero {S : List Int} {x : Int} (h : seenV S x = 0) : x ∉ S := fun hm => by simp [seenV, hm] at h
theorem seenV_one {S : List Int} {x : Int} (h : ¬ seenV S x = 0) : x ∈ S := by
  by_cases hm : x ∈ S
  · exact hm
  · simp [seenV, hm] at h
def seenD (S : List Int) : List (Int × Value) := S.map fun x => (x, .int .i64 1)
theorem seenD_get (S : List Int) (x : Int) : (mget (seenD S) x).getD (.int .i64 0) = .int .i64 (seenV S x) := by
  unfold seenV seenD
  induction S with
  | nil => rfl
  | cons y S ih =>
    rw [List.map_cons, mget]
    by_cases h : y = x
    · rw [if_pos h, if_pos (by simp [h])]; rfl
    · rw [if_neg h, ih]
      by_cases h2 : x ∈ S
      · rw [if_pos h2, if_pos (by simp [h2])]
      · rw [if_neg h2, if_neg (by simp [h2, Ne.symm h])]
theorem seenD_put {S : List Int} {x : Int} (h : x ∉ S) : mput (seenD S) x (.int .i64 1) = seenD (S ++ [x]) := by
  rw [mput_new fun p hp => ?_]
  · simp [seenD]
  · obtain ⟨y, hy, rfl⟩ := List.mem_map.1 hp
    exact fun e => h (by simp only at e; rw [← e]; exact hy)
/-- The ids in order. -/
def keysOf (E : List Arc) : List Int := ((grp E).map (·.1)).mergeSort leI
theorem mem_keysOf {E : List Arc} {a : Int} : a ∈ keysOf E ↔ ∃ b, (a, b) ∈ E := by
  unfold keysOf; rw [(List.mergeSort_perm _ _).mem_iff, grp_key]
theorem keys_mput {β : Type} {D : List (Int × β)} (h : (D.map (·.1)).Nodup) (a : Int) (v : β) : ((mput D a v).map (·.1)).Nodup := by
  cases e : mget D a with
  | none =>
    have hn : ∀ p ∈ D, p.1 ≠ a := fun p hp e2 => by
      have : (mget D a).isSome = true := mget_isSome.2 (List.mem_map.2 ⟨p, hp, e2⟩)
      rw [e] at this; cases this
    rw [mput_new hn, List.map_append, List.nodup_append]
    refine ⟨h, by simp, ?_⟩
    intro x hx y hy hxy
    obtain ⟨p, hp, rfl⟩ := List.mem_map.1 hx
    have : y = a := by simpa using hy
    exact hn p hp (hxy.trans this)
  | some u =>
    obtain ⟨j, hj⟩ := mget_mem e
    obtain ⟨hl, hg⟩ := List.getElem?_eq_some_iff.1 hj
    rw [mput_set h hj, List.map_set]
    have : (D.map (·.1)).set j a = D.map (·.1) := by
      apply List.ext_getElem?
      intro i
      rw [List.getElem?_set]
      by_cases hi : j = i
      · subst hi; simp [hl, hg]
      · rw [if_neg hi]
    rw [this]; exact h
theorem grp_nodup (E : List Arc) : ((grp E).map (·.1)).Nodup := by
  have : ∀ (E : List Arc) (D : List (Int × List Int)), (D.map (·.1)).Nodup → ((E.foldl put1 D).map (·.1)).Nodup := by
    intro E
    induction E with
    | nil => exact fun D h => h
    | cons e E ih => exact fun D h => ih _ (keys_mput h _ _)
  exact this E [] (by simp)
theorem keysOf_rise (E : List Arc) : (keysOf E).Pairwise (· < ·) := by
  have h1 : (keysOf E).Pairwise (fun a b => leI a b = true) := List.pairwise_mergeSort (by intro a b c; simp; omega) (by intro a b; simp; omega) _
  have h2 : (keysOf E).Nodup := (List.mergeSort_perm _ _).nodup_iff.2 (grp_nodup E)
  have h3 := h1.and h2
  refine h3.imp ?_
  rintro a b ⟨h, n⟩
  simp at h
  omega
/-- The rings among the first j ids. -/
structure Part (E : List Arc) (j : Nat) (R : List Int) : Prop where
  rise : R.Pairwise (· < ·)
  mem : ∀ a, a ∈ R ↔ a ∈ (keysOf E).take j ∧ Way E a a
  len : R.length ≤ j
theorem Part.start (E : List Arc) : Part E 0 [] := ⟨by simp, by simp, by simp⟩
theorem Part.no {E : List Arc} {j : Nat} {R : List Int} {id : Int} (p : Part E j R) (h : (keysOf E)[j]? = some id) (hn : ¬ Way E id id) : Part E (j + 1) R := by
  obtain ⟨hj, rfl⟩ := List.getElem?_eq_some_iff.1 h
  refine ⟨p.rise, fun a => ?_, Nat.le_succ_of_le p.len⟩
  rw [p.mem, List.take_succ_eq_append_getElem hj, List.mem_append]
  constructor
  · rintro ⟨h1, h2⟩; exact ⟨.inl h1, h2⟩
  · rintro ⟨h1 | h1, h2⟩
    · exact ⟨h1, h2⟩
    · have : a = (keysOf E)[j] := by simpa using h1
      subst this; exact absurd h2 hn
theorem Part.yes {E : List Arc} {j : Nat} {R : List Int} {id : Int} (p : Part E j R) (h : (keysOf E)[j]? = some id) (hn : Way E id id) : Part E (j + 1) (R ++ [id]) := by
  obtain ⟨hj, rfl⟩ := List.getElem?_eq_some_iff.1 h
  refine ⟨?_, fun a => ?_, by rw [List.length_append]; have := p.len; simp; omega⟩
  · rw [List.pairwise_append]
    refine ⟨p.rise, by simp, fun a ha b hb => ?_⟩
    have : b = (keysOf E)[j] := by simpa using hb
    subst this
    obtain ⟨i, hi, e⟩ := List.mem_iff_getElem.1 ((p.mem a).1 ha).1
    rw [List.length_take] at hi
    rw [List.getElem_take] at e
    rw [← e]
    exact List.pairwise_iff_getElem.1 (keysOf_rise E) i j (by omega) hj (by omega)
  · rw [List.mem_append, p.mem, List.take_succ_eq_append_getElem hj, List.mem_append]
    constructor
    · rintro (⟨h1, h2⟩ | h1)
      · exact ⟨.inl h1, h2⟩
      · have : a = (keysOf E)[j] := by simpa using h1
        subst this; exact ⟨.inr (by simp), hn⟩
    · rintro ⟨h1 | h1, h2⟩
      · exact .inl ⟨h1, h2⟩
      · exact .inr h1
theorem Part.all {E : List Arc} {j : Nat} {R : List Int} (p : Part E j R) (h : (keysOf E).length ≤ j) : RingsOf E R := by
  refine ⟨p.rise, fun a => ?_⟩
  rw [p.mem, List.take_of_length_le h, mem_keysOf]
  exact ⟨fun h => h.2, fun h => ⟨h.first, h⟩⟩
theorem grp_len (E : List Arc) : (grp E).length ≤ E.length := by
  have : ∀ (E : List Arc) (D : List (Int × List Int)), (E.foldl put1 D).length ≤ D.length + E.length := by
    intro E
    induction E with
    | nil => intro D; simp
    | cons e E ih =>
      intro D
      have := ih (put1 D e)
      have := mput_length_le D e.1 ((mget D e.1).getD [] ++ [e.2])
      rw [List.foldl_cons, List.length_cons]
      unfold put1 at *
      omega
  simpa [grp] using this E []
theorem keysOf_len (E : List Arc) : (keysOf E).length ≤ E.length := by unfold keysOf; rw [List.length_mergeSort, List.length_map]; exact grp_len E
end Go.Proofs.Ytjdkpebnaohonaa.P
