import Derived.Test.YtagbmfdheppmoaaGreatDoorK2
/-
  A list on steps with one key more, or one less: the plain side.
-/
namespace Go.Proofs.YtagbmfdheppmoaaGreatDoor.B
open Go.RowKit Go.Proofs.YtagbmfdheppmoaaGreatDoor.Sep
set_option linter.unusedVariables false
set_option linter.unusedSimpArgs false
noncomputable section
open Classical
/-- Blocks that are owned apart are others. -/
theorem satH_nodup {t : TypeId} {L : List Chunk} : ∀ {rows : List (Nat × List Value)} {h : Hp}, SatH (rows.map (bch t) ++ L) h → (rows.map (·.1)).Nodup ∧ ∀ x ∈ rows, h x.1 ≠ none
  | [], h, _ => ⟨List.nodup_nil, fun x hx => by simp at hx⟩
  | x :: rows, h, s => by
    obtain ⟨h1, h2, a, s1, s2, hx, hr⟩ := s
    have hx : h1 x.1 = some (.cells x.2.toArray t (0, 0)) := hx
    obtain ⟨i1, i2⟩ := satH_nodup hr
    refine ⟨List.nodup_cons.2 ⟨fun hm => ?_, i1⟩, fun y hy => ?_⟩
    · obtain ⟨y, hy, e⟩ := List.mem_map.1 hm
      have := i2 y hy
      rcases a x.1 with c | c
      · rw [hx] at c; cases c
      · exact this (by rw [e]; exact c)
    · rcases List.mem_cons.1 hy with rfl | hy
      · rw [s1 _ _ hx]; simp
      · have := i2 y hy
        cases e : h2 y.1 with
        | none => exact absurd e this
        | some o => rw [s2 _ _ e]; simp
theorem rowsF_blocks {F : Nat → Nat → Option Nat} : ∀ {l : List Nd} {q : Nat}, (rowsF F q l).map (·.1) = l.map (·.g)
  | [], q => rfl
  | x :: r, q => by show x.g :: (rowsF F (q + 1) r).map (·.1) = x.g :: r.map (·.g); rw [rowsF_blocks]
theorem skF_nodup {l : List Nd} {F : Nat → Nat → Option Nat} {L : List Chunk} {w : World} (s : Sat (SkF l F :: L) w) : (l.map (·.g)).Nodup := by
  have := (satH_nodup (Sat.star_iff.1 s)).1
  rwa [rowsF_blocks] at this
theorem g_inj {l : List Nd} (h : (l.map (·.g)).Nodup) {p q : Nat} {x y : Nd} (hx : l[p]? = some x) (hy : l[q]? = some y) (e : x.g = y.g) : p = q := by
  obtain ⟨h1, rfl⟩ := List.getElem?_eq_some_iff.1 hx
  obtain ⟨h2, rfl⟩ := List.getElem?_eq_some_iff.1 hy
  have h := List.pairwise_iff_getElem.1 h
  rcases Nat.lt_trichotomy p q with c | c | c
  · exact absurd (by rw [List.getElem_map, List.getElem_map]; exact e) (h p q (by simpa using h1) (by simpa using h2) c)
  · exact c
  · exact absurd (by rw [List.getElem_map, List.getElem_map]; exact e.symm) (h q p (by simpa using h2) (by simpa using h1) c)
theorem nxt_app (i : Nat) : ∀ (A B : List Nd), nxt i (A ++ B) = (nxt i A).orElse fun _ => nxt i B
  | [], B => by simp [nxt]
  | x :: A, B => by
    by_cases hx : i < x.n
    · simp [nxt, hx]
    · simp [nxt, hx, nxt_app i A B]
theorem nxt_none_of {i : Nat} : ∀ {r : List Nd}, (∀ (q : Nat) (z : Nd), r[q]? = some z → ¬ i < z.n) → nxt i r = none
  | [], _ => rfl
  | x :: r, h => by
    have := h 0 x rfl
    simp [nxt, this]
    exact nxt_none_of fun q z hz => h (q + 1) z (by simpa using hz)
theorem nxt_mem {i g : Nat} {r : List Nd} (h : nxt i r = some g) : ∃ (q : Nat) (y : Nd), r[q]? = some y ∧ i < y.n ∧ y.g = g := by
  induction r with
  | nil => cases h
  | cons x r ih =>
    by_cases hx : i < x.n
    · simp [nxt, hx] at h; exact ⟨0, x, rfl, hx, h⟩
    · simp [nxt, hx] at h
      obtain ⟨q, y, a, b, c⟩ := ih h
      exact ⟨q + 1, y, by simpa using a, b, c⟩
/-- Between the last one of step j and the last one of step 0 none stands on j. -/
theorem seg_none {l : List Nd} (ok : SkOk l) {key : List UInt8} {j q q0 : Nat} (h : LastAt l key j q) (h0 : LastAt l key 0 q0) {q' : Nat} {z : Nd} (h1 : q < q') (h2 : q' ≤ q0) (hz : l[q']? = some z) : ¬ j < z.n := by
  intro hj
  have := h.2 q' z h1 hz hj
  obtain ⟨⟨x, a, b, c⟩, _⟩ := h0
  rcases Nat.lt_or_ge q' q0 with d | d
  · exact this (klt_trans (ok.lt (by omega) d hz a) (c.resolve_left (by omega)))
  · have : q' = q0 := by omega
    subst this; rw [a] at hz; cases hz
    exact this (c.resolve_left (by omega))
theorem LastAt.le0 {l : List Nd} (ok : SkOk l) {key : List UInt8} {j q q0 : Nat} (h : LastAt l key j q) (h0 : LastAt l key 0 q0) : q ≤ q0 := by
  obtain ⟨⟨x, a, b, c⟩, _⟩ := h
  rcases Nat.lt_or_ge q0 q with d | d
  · have h1 := h0.2 q x d a (by omega)
    exact absurd (c.resolve_left (by omega)) h1
  · exact d
theorem drop_split (l : List Nd) {q q0 : Nat} (h : q ≤ q0) : l.drop (q + 1) = (l.drop (q + 1)).take (q0 - q) ++ l.drop (q0 + 1) := by
  have := List.take_append_drop (q0 - q) (l.drop (q + 1))
  rw [List.drop_drop, show q + 1 + (q0 - q) = q0 + 1 by omega] at this
  exact this.symm
theorem take_get {l : List Nd} {q n p : Nat} {z : Nd} (h : ((l.drop (q + 1)).take n)[p]? = some z) : p < n ∧ l[q + 1 + p]? = some z := by
  rw [List.getElem?_take] at h
  split at h
  · rename_i hp; rw [List.getElem?_drop] at h; exact ⟨hp, h⟩
  · cases h
theorem canon_last {l : List Nd} (ok : SkOk l) {key : List UInt8} {j q q0 : Nat} (h : LastAt l key j q) (h0 : LastAt l key 0 q0) : canon l q j = nxt j (l.drop (q0 + 1)) := by
  obtain ⟨x, a, b, c⟩ := h.1
  rw [canon_at a b, drop_split l (h.le0 ok h0), nxt_app, nxt_none_of fun p z hz => ?_]
  · rfl
  · obtain ⟨h1, h2⟩ := take_get hz
    exact seg_none ok h h0 (by omega) (by omega) h2
/-! ### one more -/
def insF (l : List Nd) (key : List UInt8) (g : Nat) (i : Nat) : Nat → Nat → Option Nat := fun q j => if j < i ∧ LastAt l key j q then some g else canon l q j
theorem insF_zero (l : List Nd) (key : List UInt8) (g : Nat) : insF l key g 0 = canon l := by funext q j; simp [insF]
theorem insF_upd {l : List Nd} {key : List UInt8} {g i q : Nat} (h : LastAt l key i q) : updF (insF l key g i) q i (some g) = insF l key g (i + 1) := by
  funext q' j
  simp only [updF, insF]
  by_cases e : j = i
  · subst e
    by_cases e2 : q' = q
    · subst e2; simp [h]
    · have : ¬ LastAt l key j q' := fun k => e2 (k.uniq h)
      simp [e2, this]
  · rw [if_neg (fun h => e h.2)]
    by_cases e3 : j < i
    · simp [e3, show j < i + 1 by omega]
    · rw [if_neg (fun h => e3 h.1), if_neg (fun h => by have := h.1; omega)]
def nwF (l : List Nd) (q0 i : Nat) : Nat → Option Nat := fun j => if j < i then nxt j (l.drop (q0 + 1)) else none
theorem nwF_put {l : List Nd} {q0 i : Nat} : (fun j => if j = i then nxt i (l.drop (q0 + 1)) else nwF l q0 i j) = nwF l q0 (i + 1) := by
  funext j
  simp only [nwF]
  by_cases e : j = i
  · subst e; simp
  · rw [if_neg e]
    by_cases e2 : j < i
    · simp [e2, show j < i + 1 by omega]
    · rw [if_neg e2, if_neg (by omega)]
def ins1 (l : List Nd) (q0 : Nat) (x : Nd) : List Nd := l.take (q0 + 1) ++ x :: l.drop (q0 + 1)
theorem rowsF_app {F : Nat → Nat → Option Nat} : ∀ {A B : List Nd} {q : Nat}, rowsF F q (A ++ B) = rowsF F q A ++ rowsF F (q + A.length) B
  | [], B, q => rfl
  | x :: A, B, q => by
    show (x.g, ncF x (F q)) :: rowsF F (q + 1) (A ++ B) = (x.g, ncF x (F q)) :: (rowsF F (q + 1) A ++ rowsF F (q + (A.length + 1)) B)
    rw [rowsF_app, show q + 1 + A.length = q + (A.length + 1) by omega]
theorem rowsF_perm_ins {l : List Nd} (ok : SkOk l) {key : List UInt8} {q0 : Nat} (h0 : LastAt l key 0 q0) {x : Nd} (hn : x.n ≤ 16) :
    ((x.g, ncF x (nwF l q0 x.n)) :: rowsF (insF l key x.g x.n) 0 l).Perm (rowsF (canon (ins1 l q0 x)) 0 (ins1 l q0 x)) := by
  have hl : q0 < l.length := by obtain ⟨y, a, _⟩ := h0.1; exact (List.getElem?_eq_some_iff.1 a).1
  have hlt : (l.take (q0 + 1)).length = q0 + 1 := by rw [List.length_take]; omega
  have e0 : rowsF (insF l key x.g x.n) 0 l = rowsF (insF l key x.g x.n) 0 (l.take (q0 + 1)) ++ rowsF (insF l key x.g x.n) (q0 + 1) (l.drop (q0 + 1)) := by
    have := rowsF_app (F := insF l key x.g x.n) (A := l.take (q0 + 1)) (B := l.drop (q0 + 1)) (q := 0)
    rwa [List.take_append_drop, hlt, Nat.zero_add] at this
  have e1 : rowsF (canon (ins1 l q0 x)) 0 (ins1 l q0 x) = rowsF (canon (ins1 l q0 x)) 0 (l.take (q0 + 1)) ++ ((x.g, ncF x (canon (ins1 l q0 x) (q0 + 1))) :: rowsF (canon (ins1 l q0 x)) (q0 + 2) (l.drop (q0 + 1))) := by
    have := rowsF_app (F := canon (ins1 l q0 x)) (A := l.take (q0 + 1)) (B := x :: l.drop (q0 + 1)) (q := 0)
    rw [hlt, Nat.zero_add] at this
    exact this
  have gx : (ins1 l q0 x)[q0 + 1]? = some x := by
    unfold ins1; rw [List.getElem?_append_right (by omega), hlt]; simp
  have gl : ∀ p, p ≤ q0 → (ins1 l q0 x)[p]? = l[p]? := fun p hp => by
    unfold ins1; rw [List.getElem?_append_left (by omega), List.getElem?_take, if_pos (by omega)]
  have gr : ∀ p, q0 < p → (ins1 l q0 x)[p + 1]? = l[p]? := fun p hp => by
    unfold ins1
    rw [List.getElem?_append_right (by omega), hlt, show p + 1 - (q0 + 1) = p - (q0 + 1) + 1 by omega, List.getElem?_cons_succ, List.getElem?_drop, show q0 + 1 + (p - (q0 + 1)) = p by omega]
  have dl : ∀ p, p ≤ q0 → (ins1 l q0 x).drop (p + 1) = (l.drop (p + 1)).take (q0 - p) ++ x :: l.drop (q0 + 1) := fun p hp => by
    unfold ins1
    rw [List.drop_append_of_le_length (by omega)]
    congr 1
    rw [List.drop_take, show q0 + 1 - (p + 1) = q0 - p by omega]
  have dr : ∀ p, q0 < p → (ins1 l q0 x).drop (p + 1) = l.drop p := fun p hp => by
    unfold ins1
    rw [List.drop_append, List.drop_eq_nil_of_le (by rw [hlt]; omega), hlt, List.nil_append, show p + 1 - (q0 + 1) = p - (q0 + 1) + 1 by omega, List.drop_succ_cons, List.drop_drop, show q0 + 1 + (p - (q0 + 1)) = p by omega]
  have cx : ∀ j, j < 16 → nwF l q0 x.n j = canon (ins1 l q0 x) (q0 + 1) j := fun j hj => by
    have : (ins1 l q0 x).drop (q0 + 1 + 1) = l.drop (q0 + 1) := dr (q0 + 1) (by omega)
    simp [canon, gx, this, nwF]
  have cl : ∀ p j y, p ≤ q0 → l[p]? = some y → insF l key x.g x.n p j = canon (ins1 l q0 x) p j := fun p j y hp hy => by
    have hyk : p = 0 ∨ y.k < key := by
      obtain ⟨⟨z, a, b, c⟩, _⟩ := h0
      rcases Nat.lt_or_ge p q0 with d | d
      · by_cases hp0 : p = 0
        · exact .inl hp0
        · exact .inr (klt_trans (ok.lt (by omega) d hy a) (c.resolve_left (by omega)))
      · have : p = q0 := by omega
        subst this; rw [a] at hy; cases hy; exact c
    by_cases hj : j < y.n
    · have e2 : canon (ins1 l q0 x) p j = (nxt j ((l.drop (p + 1)).take (q0 - p))).orElse fun _ => nxt j (x :: l.drop (q0 + 1)) := by
        rw [canon_at ((gl p hp).trans hy) hj, dl p hp, nxt_app]
      have e3 : canon l p j = (nxt j ((l.drop (p + 1)).take (q0 - p))).orElse fun _ => nxt j (l.drop (q0 + 1)) := by
        rw [canon_at hy hj, drop_split l hp, nxt_app, ← drop_split l hp]
      by_cases hL : LastAt l key j p
      · have hn0 : nxt j ((l.drop (p + 1)).take (q0 - p)) = none := nxt_none_of fun q z hz => by
          obtain ⟨h1, h2⟩ := take_get hz
          exact seg_none ok hL h0 (by omega) (by omega) h2
        rw [e2, hn0]
        rw [hn0] at e3
        simp only [insF, hL, and_true, e3, nxt, Option.orElse_none]
      · have hs : ∃ g, nxt j ((l.drop (p + 1)).take (q0 - p)) = some g := by
          cases hh : nxt j ((l.drop (p + 1)).take (q0 - p)) with
          | some g => exact ⟨g, rfl⟩
          | none =>
            refine absurd ⟨⟨y, hy, hj, hyk⟩, fun q z hq hz hi hlt => ?_⟩ hL
            rcases Nat.lt_or_ge q0 q with d | d
            · exact h0.2 q z d hz (by omega) hlt
            · rcases nxt_cases j ((l.drop p).take (q0 - p + 1)) 0 with ⟨a, b⟩ | ⟨a, b, c, d1, d2, d3, d4⟩
              · refine b (q - p) z (by omega) ?_ hi
                rw [List.getElem?_take, if_pos (by omega), List.getElem?_drop, show p + (q - p) = q by omega]; exact hz
              · rw [Nat.zero_add, List.drop_take, List.drop_drop, show q0 - p + 1 - 1 = q0 - p by omega, hh] at d3
                cases d3
        obtain ⟨g, hg⟩ := hs
        rw [e2, hg]
        rw [hg] at e3
        simp only [insF, hL, and_false, if_false, e3, Option.orElse_some]
    · have : ¬ LastAt l key j p := fun h => by obtain ⟨⟨z, a, b, c⟩, _⟩ := h; rw [hy] at a; cases a; exact hj b
      simp [insF, this, canon, hy, gl p hp, hj]
  have cr : ∀ p j y, q0 < p → l[p]? = some y → insF l key x.g x.n p j = canon (ins1 l q0 x) (p + 1) j := fun p j y hp hy => by
    have : ¬ LastAt l key j p := fun h => by have := h.le0 ok h0; omega
    have e : (ins1 l q0 x).drop (p + 1 + 1) = l.drop (p + 1) := dr (p + 1) (by omega)
    simp [insF, this, canon, hy, gr p hp, e]
  rw [e0, e1]
  have E1 : rowsF (insF l key x.g x.n) 0 (l.take (q0 + 1)) = rowsF (canon (ins1 l q0 x)) 0 (l.take (q0 + 1)) := rowsF_congr fun p i y hy hi => by
    rw [List.getElem?_take] at hy
    split at hy
    · rw [Nat.zero_add]; exact cl p i y (by omega) hy
    · cases hy
  have E2 : rowsF (insF l key x.g x.n) (q0 + 1) (l.drop (q0 + 1)) = rowsF (canon (ins1 l q0 x)) (q0 + 2) (l.drop (q0 + 1)) := rowsF_congr fun p i y hy hi => by
    rw [List.getElem?_drop] at hy
    rw [cr (q0 + 1 + p) i y (by omega) hy, show q0 + 1 + p + 1 = q0 + 2 + p by omega]
  have E3 : ncF x (nwF l q0 x.n) = ncF x (canon (ins1 l q0 x) (q0 + 1)) := by
    unfold ncF
    congr 3
    refine List.map_congr_left fun i hi => ?_
    rw [cx i (by simpa using hi)]
  rw [E1, E2, E3]
  exact List.perm_middle.symm
/-! ### one less -/
def delF (l : List Nd) (key : List UInt8) (p g : Nat) (i : Nat) : Nat → Nat → Option Nat := fun q j => if j < i ∧ LastAt l key j q ∧ canon l q j = some g then canon l p j else canon l q j
theorem delF_zero (l : List Nd) (key : List UInt8) (p g : Nat) : delF l key p g 0 = canon l := by funext q j; simp [delF]
theorem delF_upd {l : List Nd} {key : List UInt8} {p g i q : Nat} (h : LastAt l key i q) (e : canon l q i = some g) : updF (delF l key p g i) q i (canon l p i) = delF l key p g (i + 1) := by
  funext q' j
  simp only [updF, delF]
  by_cases e1 : j = i
  · subst e1
    by_cases e2 : q' = q
    · subst e2; simp [h, e]
    · have : ¬ LastAt l key j q' := fun k => e2 (k.uniq h)
      simp [e2, this]
  · rw [if_neg (fun h => e1 h.2)]
    by_cases e3 : j < i
    · simp [e3, show j < i + 1 by omega]
    · rw [if_neg (fun h => e3 h.1), if_neg (fun h => by have := h.1; omega)]
theorem delF_not {l : List Nd} {key : List UInt8} {p g i q : Nat} (h : LastAt l key i q) (e : ¬ canon l q i = some g) : delF l key p g i = delF l key p g (i + 1) := by
  funext q' j
  simp only [delF]
  by_cases e1 : j = i
  · subst e1
    by_cases e2 : q' = q
    · subst e2; simp [e]
    · have : ¬ LastAt l key j q' := fun k => e2 (k.uniq h)
      simp [this]
  · by_cases e3 : j < i
    · simp [e3, show j < i + 1 by omega]
    · rw [if_neg (fun h => e3 h.1), if_neg (fun h => by have := h.1; omega)]
theorem delF_at {l : List Nd} {key : List UInt8} {p g i q : Nat} : delF l key p g i q i = canon l q i := by simp [delF]
/-- The key's own place is behind all places that stand ahead of it. -/
theorem own_place {l : List Nd} (ok : SkOk l) {key : List UInt8} {q0 p : Nat} {x : Nd} (h0 : LastAt l key 0 q0) (hp : 0 < p) (hx : l[p]? = some x) (hk : x.k = key) : p = q0 + 1 := by
  have h1 : q0 < p := by
    rcases Nat.lt_or_ge q0 p with d | d
    · exact d
    · obtain ⟨⟨y, a, b, c⟩, _⟩ := h0
      rcases Nat.lt_or_ge p q0 with e | e
      · have := klt_trans (ok.lt hp e hx a) (c.resolve_left (by omega))
        rw [hk] at this; exact absurd this (klt_irrefl _)
      · have : p = q0 := by omega
        subst this; rw [hx] at a; cases a
        have := c.resolve_left (by omega)
        rw [hk] at this; exact absurd this (klt_irrefl _)
  rcases Nat.lt_or_ge (q0 + 1) p with d | d
  · have hlt := (List.getElem?_eq_some_iff.1 hx).1
    have hz : l[q0 + 1]? = some l[q0 + 1] := List.getElem?_eq_getElem (by omega)
    have h3 := h0.2 (q0 + 1) _ (by omega) hz (by have := (ok.step hz).1; omega)
    have h4 := ok.lt (by omega) d hz hx
    rw [hk] at h4
    exact absurd h4 h3
  · omega
def del1 (l : List Nd) (p : Nat) : List Nd := l.take p ++ l.drop (p + 1)
theorem rowsF_perm_del {l : List Nd} (ok : SkOk l) (nd : (l.map (·.g)).Nodup) {key : List UInt8} {q0 : Nat} (h0 : LastAt l key 0 q0) {x : Nd} (hx : l[q0 + 1]? = some x) (hk : x.k = key) :
    ∃ cs, (rowsF (delF l key (q0 + 1) x.g 16) 0 l).Perm ((x.g, cs) :: rowsF (canon (del1 l (q0 + 1))) 0 (del1 l (q0 + 1))) := by
  have hl := (List.getElem?_eq_some_iff.1 hx).1
  have hlt : (l.take (q0 + 1)).length = q0 + 1 := by rw [List.length_take]; omega
  have el : l = l.take (q0 + 1) ++ x :: l.drop (q0 + 2) := by
    have h1 := (List.take_append_drop (q0 + 1) l).symm
    rw [List.drop_eq_getElem_cons hl] at h1
    obtain ⟨_, e⟩ := List.getElem?_eq_some_iff.1 hx
    rw [e] at h1; exact h1
  have xs : ∀ j, j < 16 → x.n ≤ 16 := fun _ _ => (ok.step hx).2
  let F := delF l key (q0 + 1) x.g 16
  have e0 : rowsF F 0 l = rowsF F 0 (l.take (q0 + 1)) ++ ((x.g, ncF x (F (q0 + 1))) :: rowsF F (q0 + 2) (l.drop (q0 + 2))) := by
    have := rowsF_app (F := F) (A := l.take (q0 + 1)) (B := x :: l.drop (q0 + 2)) (q := 0)
    rw [hlt, Nat.zero_add, ← el] at this
    exact this
  have e1 : rowsF (canon (del1 l (q0 + 1))) 0 (del1 l (q0 + 1)) = rowsF (canon (del1 l (q0 + 1))) 0 (l.take (q0 + 1)) ++ rowsF (canon (del1 l (q0 + 1))) (q0 + 1) (l.drop (q0 + 2)) := by
    have := rowsF_app (F := canon (del1 l (q0 + 1))) (A := l.take (q0 + 1)) (B := l.drop (q0 + 2)) (q := 0)
    rw [hlt, Nat.zero_add] at this
    exact this
  have gl : ∀ p, p ≤ q0 → (del1 l (q0 + 1))[p]? = l[p]? := fun p hp => by
    unfold del1; rw [List.getElem?_append_left (by omega), List.getElem?_take, if_pos (by omega)]
  have gr : ∀ p, q0 + 1 ≤ p → (del1 l (q0 + 1))[p]? = l[p + 1]? := fun p hp => by
    unfold del1
    rw [List.getElem?_append_right (by omega), hlt, List.getElem?_drop, show q0 + 1 + 1 + (p - (q0 + 1)) = p + 1 by omega]
  have dl : ∀ p, p ≤ q0 → (del1 l (q0 + 1)).drop (p + 1) = (l.drop (p + 1)).take (q0 - p) ++ l.drop (q0 + 2) := fun p hp => by
    unfold del1
    rw [List.drop_append_of_le_length (by omega)]
    congr 1
    rw [List.drop_take, show q0 + 1 - (p + 1) = q0 - p by omega]
  have dr : ∀ p, q0 + 1 ≤ p → (del1 l (q0 + 1)).drop (p + 1) = l.drop (p + 2) := fun p hp => by
    unfold del1
    rw [List.drop_append, List.drop_eq_nil_of_le (by rw [hlt]; omega), hlt, List.nil_append, List.drop_drop, show q0 + 1 + 1 + (p + 1 - (q0 + 1)) = p + 2 by omega]
  have dx : ∀ p, p ≤ q0 → l.drop (p + 1) = (l.drop (p + 1)).take (q0 - p) ++ x :: l.drop (q0 + 2) := fun p hp => by
    have h1 := drop_split l hp
    have h2 : l.drop (q0 + 1) = x :: l.drop (q0 + 2) := by
      rw [List.drop_eq_getElem_cons hl]
      obtain ⟨_, e⟩ := List.getElem?_eq_some_iff.1 hx
      rw [e]
    rw [h2] at h1; exact h1
  have nx : ∀ (q : Nat) (y : Nd), q ≠ q0 + 1 → l[q]? = some y → y.g ≠ x.g := fun q y hq hy e => hq (g_inj nd hy hx e)
  have cl : ∀ p j y, j < 16 → p ≤ q0 → l[p]? = some y → F p j = canon (del1 l (q0 + 1)) p j := fun p j y hj16 hp hy => by
    have hyk : p = 0 ∨ y.k < key := by
      obtain ⟨⟨z, a, b, c⟩, _⟩ := h0
      rcases Nat.lt_or_ge p q0 with d | d
      · by_cases hp0 : p = 0
        · exact .inl hp0
        · exact .inr (klt_trans (ok.lt (by omega) d hy a) (c.resolve_left (by omega)))
      · have : p = q0 := by omega
        subst this; rw [a] at hy; cases hy; exact c
    by_cases hj : j < y.n
    · have e2 : canon (del1 l (q0 + 1)) p j = (nxt j ((l.drop (p + 1)).take (q0 - p))).orElse fun _ => nxt j (l.drop (q0 + 2)) := by
        rw [canon_at ((gl p hp).trans hy) hj, dl p hp, nxt_app]
      have e3 : canon l p j = (nxt j ((l.drop (p + 1)).take (q0 - p))).orElse fun _ => nxt j (x :: l.drop (q0 + 2)) := by
        rw [canon_at hy hj]
        have := congrArg (nxt j) (dx p hp)
        rw [nxt_app] at this
        exact this
      cases hh : nxt j ((l.drop (p + 1)).take (q0 - p)) with
      | none =>
        have hL : LastAt l key j p := ⟨⟨y, hy, hj, hyk⟩, fun q z hq hz hi hlt => by
          rcases Nat.lt_or_ge q0 q with d | d
          · exact h0.2 q z d hz (by omega) hlt
          · rcases nxt_cases j ((l.drop p).take (q0 - p + 1)) 0 with ⟨a, b⟩ | ⟨a, b, c, d1, d2, d3, d4⟩
            · refine b (q - p) z (by omega) ?_ hi
              rw [List.getElem?_take, if_pos (by omega), List.getElem?_drop, show p + (q - p) = q by omega]; exact hz
            · rw [Nat.zero_add, List.drop_take, List.drop_drop, show q0 - p + 1 - 1 = q0 - p by omega, hh] at d3
              cases d3⟩
        rw [hh] at e2 e3
        simp only [Option.orElse_none] at e2 e3
        rw [e2]
        by_cases hxj : j < x.n
        · have e4 : canon l p j = some x.g := by rw [e3]; simp [nxt, hxj]
          have e5 : canon l (q0 + 1) j = nxt j (l.drop (q0 + 2)) := canon_at hx hxj
          show delF l key (q0 + 1) x.g 16 p j = _
          simp only [delF, hj16, hL, e4, and_self, if_true, e5]
        · have e4 : canon l p j = nxt j (l.drop (q0 + 2)) := by rw [e3]; simp [nxt, hxj]
          have e5 : ¬ canon l p j = some x.g := fun h => by
            rw [e4] at h
            obtain ⟨q, z, a, _, c⟩ := nxt_mem h
            rw [List.getElem?_drop] at a
            exact nx _ z (by omega) a c
          show delF l key (q0 + 1) x.g 16 p j = _
          unfold delF; rw [if_neg (fun h => e5 h.2.2), e4]
      | some g =>
        rw [hh] at e2 e3
        simp only [Option.orElse_some] at e2 e3
        have e5 : ¬ canon l p j = some x.g := fun h => by
          rw [e3] at h; cases h
          obtain ⟨q, z, a, _, c⟩ := nxt_mem hh
          obtain ⟨a1, a2⟩ := take_get a
          exact nx _ z (by omega) a2 c
        show delF l key (q0 + 1) x.g 16 p j = _
        unfold delF; rw [if_neg (fun h => e5 h.2.2), e3, e2]
    · have : ¬ LastAt l key j p := fun h => by obtain ⟨⟨z, a, b, c⟩, _⟩ := h; rw [hy] at a; cases a; exact hj b
      show delF l key (q0 + 1) x.g 16 p j = _
      simp [delF, this, canon, hy, gl p hp, hj]
  have cr : ∀ p j y, q0 + 1 ≤ p → l[p + 1]? = some y → F (p + 1) j = canon (del1 l (q0 + 1)) p j := fun p j y hp hy => by
    have : ¬ LastAt l key j (p + 1) := fun h => by have := h.le0 ok h0; omega
    show delF l key (q0 + 1) x.g 16 (p + 1) j = _
    simp [delF, this, canon, hy, gr p hp, dr p hp]
  refine ⟨_, (List.Perm.of_eq e0).trans (List.perm_middle.trans (List.Perm.cons _ (List.Perm.of_eq ?_)))⟩
  rw [e1]
  have E1 : rowsF F 0 (l.take (q0 + 1)) = rowsF (canon (del1 l (q0 + 1))) 0 (l.take (q0 + 1)) := rowsF_congr fun p i y hy hi => by
    rw [List.getElem?_take] at hy
    split at hy
    · rw [Nat.zero_add]; exact cl p i y hi (by omega) hy
    · cases hy
  have E2 : rowsF F (q0 + 2) (l.drop (q0 + 2)) = rowsF (canon (del1 l (q0 + 1))) (q0 + 1) (l.drop (q0 + 2)) := rowsF_congr fun p i y hy hi => by
    rw [List.getElem?_drop] at hy
    have := cr (q0 + 1 + p) i y (by omega) (by rw [show q0 + 1 + p + 1 = q0 + 2 + p by omega]; exact hy)
    rw [← this, show q0 + 1 + p + 1 = q0 + 2 + p by omega]
  rw [E1, E2]
end
end Go.Proofs.YtagbmfdheppmoaaGreatDoor.B
