import Derived.Test.YtagbmfdheppmoaaGreatDoorS0
/-
  ShardSwept, the plain side: the sweep.
-/
namespace Go.Proofs.YtagbmfdheppmoaaGreatDoor.B
open Go.RowKit Go.Proofs.YtagbmfdheppmoaaGreatDoor.Sep
open Vm (vkey vkey0 vtx stx stv txnv)
set_option linter.unusedVariables false
set_option linter.unusedSimpArgs false
def low (w : Int) (l : List P2) : List P2 := l.filter fun p => decide (p.1 ≤ w)
def gon (c : UInt8) (p : P2) : O3 := gone (c, p)
/-- What the sweep takes of a key's versions. -/
def outs (c : UInt8) : List P2 → List O3
  | [] => []
  | p :: t => (bif p.2 then [] else [gon c p]) ++ t.map (gon c)
theorem fold_seen (w : Int) (c : UInt8) : ∀ (l : List P2) (out : List O3), (l.map fun p => ((c, p) : V3)).foldl (swf w) (some c, out) = (some c, out ++ (low w l).map (gon c))
  | [], out => by simp [low]
  | p :: l, out => by
    rw [List.map_cons, List.foldl_cons]
    by_cases h : p.1 ≤ w
    · have e : swf w (some c, out) (c, p) = (some c, out ++ [gon c p]) := by
        unfold swf
        rw [decide_eq_false (show ¬ w < ((c, p) : V3).2.1 by show ¬ w < p.1; omega)]
        have : fstB (some c) c = false := by simp [fstB]
        simp only [cond_false, this, Bool.false_and]; rfl
      rw [e, fold_seen w c l]
      have : low w (p :: l) = p :: low w l := by unfold low; rw [List.filter_cons_of_pos (by simpa using h)]
      rw [this]; simp
    · have e : swf w (some c, out) (c, p) = (some c, out) := by
        unfold swf
        rw [decide_eq_true (show w < ((c, p) : V3).2.1 by show w < p.1; omega)]; rfl
      rw [e, fold_seen w c l]
      have : low w (p :: l) = low w l := by unfold low; rw [List.filter_cons_of_neg (by simpa using h)]
      rw [this]
theorem fold_new (w : Int) (c : UInt8) : ∀ (l : List P2) (seen : Option UInt8) (out : List O3), seen ≠ some c → ∃ seen', (l.map fun p => ((c, p) : V3)).foldl (swf w) (seen, out) = (seen', out ++ outs c (low w l)) ∧ (seen' = seen ∨ seen' = some c)
  | [], seen, out, h => ⟨seen, by simp [low, outs], .inl rfl⟩
  | p :: l, seen, out, h => by
    rw [List.map_cons, List.foldl_cons]
    by_cases hp : p.1 ≤ w
    · have e : swf w (seen, out) (c, p) = (some c, bif p.2 then out else out ++ [gon c p]) := by
        unfold swf
        rw [decide_eq_false (show ¬ w < ((c, p) : V3).2.1 by show ¬ w < p.1; omega)]
        have : fstB seen c = true := by simp [fstB, h]
        simp only [cond_false, this, Bool.true_and]; rfl
      have e2 : low w (p :: l) = p :: low w l := by unfold low; rw [List.filter_cons_of_pos (by simpa using hp)]
      refine ⟨some c, ?_, .inr rfl⟩
      rw [e, fold_seen, e2]
      cases hq : p.2 <;> simp [outs, hq]
    · have e : swf w (seen, out) (c, p) = (seen, out) := by
        unfold swf
        rw [decide_eq_true (show w < ((c, p) : V3).2.1 by show w < p.1; omega)]; rfl
      have e2 : low w (p :: l) = low w l := by unfold low; rw [List.filter_cons_of_neg (by simpa using hp)]
      rw [e, e2]
      exact fold_new w c l seen out h
theorem sst_two (w : Int) (la lb : List P2) : (sst w (vs2 la lb) (vs2 la lb).length).2 = outs 97 (low w la) ++ outs 98 (low w lb) := by
  unfold sst
  rw [List.take_length]
  unfold vs2
  rw [List.foldl_append]
  obtain ⟨s1, e1, h1⟩ := fold_new w 97 la none [] (by simp)
  rw [e1]
  obtain ⟨s2, e2, _⟩ := fold_new w 98 lb s1 ([] ++ outs 97 (low w la)) (by rcases h1 with rfl | rfl <;> decide)
  rw [e2, List.nil_append]
/-! ### what is taken off -/
theorem appl_dels {D : List O3} (h : ∀ o ∈ D, o.2.2 = true) : ∀ t : List Rw, appl t D = t.filter fun x => !D.any fun o => decide (x.1 = o.1) := by
  induction D with
  | nil => intro t; exact (List.filter_eq_self.2 fun x _ => rfl).symm
  | cons o D ih =>
    intro t
    have e : appl t (o :: D) = appl (tdel t o.1) D := by show appl (app1 t o) D = _; unfold app1; rw [h o (List.mem_cons_self ..)]; rfl
    rw [e, ih (fun o ho => h o (List.mem_cons_of_mem _ ho))]
    unfold tdel
    rw [List.filter_filter]
    refine List.filter_congr fun x _ => ?_
    rw [List.any_cons, Bool.not_or, Bool.and_comm]
theorem outs_mem {c : UInt8} {l : List P2} {o : O3} (h : o ∈ outs c l) : ∃ p ∈ l, o = gon c p := by
  cases l with
  | nil => cases h
  | cons p t =>
    rcases List.mem_append.1 h with h | h
    · cases hp : p.2 with
      | true => rw [hp] at h; cases h
      | false => rw [hp] at h; simp at h; exact ⟨p, List.mem_cons_self .., h⟩
    · obtain ⟨q, hq, rfl⟩ := List.mem_map.1 h
      exact ⟨q, List.mem_cons_of_mem _ hq, rfl⟩
/-- The versions that are taken off. -/
def dels (w : Int) (la lb : List P2) : List O3 := (sst w (vs2 la lb) (vs2 la lb).length).2.drop ((sst w (vs2 la lb) (vs2 la lb).length).2.length - 127)
theorem dels_drop (w : Int) (la lb : List P2) : ∃ k, dels w la lb = (outs 97 (low w la) ++ outs 98 (low w lb)).drop k := ⟨_, by unfold dels; rw [sst_two]⟩
theorem dels_del {w : Int} {la lb : List P2} : ∀ o ∈ dels w la lb, o.2.2 = true ∧ o.2.1 = [] ∧ o.1 ≠ [] ∧ o.1.length ≤ 1000000 := by
  intro o ho
  obtain ⟨k, e⟩ := dels_drop w la lb
  rw [e] at ho
  rcases List.mem_append.1 (List.mem_of_mem_drop ho) with h | h <;> obtain ⟨p, _, rfl⟩ := outs_mem h
  · exact ⟨rfl, rfl, vkey_nil _ _, by show (vkey 97 p.1).length ≤ _; unfold vkey; simp⟩
  · exact ⟨rfl, rfl, vkey_nil _ _, by show (vkey 98 p.1).length ≤ _; unfold vkey; simp⟩
/-- Whether a version stays. -/
def stays (w : Int) (la lb : List P2) (c : UInt8) (p : P2) : Bool := !(dels w la lb).any fun o => decide (vkey c p.1 = o.1)
theorem swept {w : Int} {la lb : List P2} : appl (VR [] la lb) (swOps w (vs2 la lb)) = VR [([103, 1], stx w)] (la.filter (stays w la lb 97)) (lb.filter (stays w la lb 98)) := by
  have e0 : swOps w (vs2 la lb) = ([103, 1], stx w, false) :: dels w la lb := rfl
  rw [e0]
  have e1 : appl (VR [] la lb) (([103, 1], stx w, false) :: dels w la lb) = appl (tput (VR [] la lb) [103, 1] (stx w)) (dels w la lb) := by
    have e3 : app1 (VR [] la lb) ([103, 1], stx w, false) = tput (VR [] la lb) [103, 1] (stx w) := by unfold app1; exact cond_false _ _
    unfold appl
    rw [List.foldl_cons, e3]
  have e2 : tput (VR [] la lb) [103, 1] (stx w) = ([103, 1], stx w) :: VR [] la lb := by
    unfold tput
    have h1 : ∀ x ∈ VR [] la lb, ([103, 1] : K) < x.1 := fun x hx => by
      have hx : x ∈ VA la ++ VB lb := hx
      rcases List.mem_append.1 hx with h | h <;> obtain ⟨p, _, rfl⟩ := List.mem_map.1 h <;> exact th_lt _ _
    have q1 : (VR [] la lb).filter (fun x : Rw => decide (x.1 < ([103, 1] : K))) = [] := List.filter_eq_nil_iff.2 fun x hx e => klt_asymm (h1 x hx) (of_decide_eq_true e)
    have q2 : (VR [] la lb).filter (fun x : Rw => decide (([103, 1] : K) < x.1)) = VR [] la lb := List.filter_eq_self.2 fun x hx => decide_eq_true (h1 x hx)
    exact (cong2 (fun a d => a ++ (([103, 1], stx w) : Rw) :: d) q1 q2).trans rfl
  rw [e1, e2, appl_dels (fun o ho => (dels_del o ho).1)]
  have hth : ∀ o ∈ dels w la lb, ¬ ([103, 1] : K) = o.1 := fun o ho e => by
    obtain ⟨k, e2⟩ := dels_drop w la lb
    rw [e2] at ho
    rcases List.mem_append.1 (List.mem_of_mem_drop ho) with h | h <;> obtain ⟨p, _, rfl⟩ := outs_mem h <;> (replace e : [103, 1] = vkey _ p.1 := e; unfold vkey at e; simp at e)
  rw [List.filter_cons_of_pos (by
    rw [Bool.not_eq_true', List.any_eq_false]
    exact fun o ho => by simp [hth o ho])]
  unfold VR
  rw [List.nil_append, List.filter_append]
  unfold VA VB
  rw [List.filter_map, List.filter_map]
  have hs : ∀ c : UInt8, ((fun x : Rw => !(dels w la lb).any fun o => decide (x.1 = o.1)) ∘ fun p : P2 => vrow (c, p)) = stays w la lb c := fun c => funext fun p => by simp only [Function.comp_apply, stays, vrow]
  rw [hs, hs, List.cons_append, List.nil_append]
theorem mem_drop_after {α : Type} {A B : List α} {x : α} {k : Nat} (h : x ∈ (A ++ x :: B).drop k) (hx : x ∉ B) : k ≤ A.length := by
  rcases Nat.lt_or_ge A.length k with c | c
  · exfalso
    rw [List.drop_append, List.drop_eq_nil_of_le (by omega), List.nil_append] at h
    obtain ⟨m, hm⟩ : ∃ m, k - A.length = m + 1 := ⟨k - A.length - 1, by omega⟩
    rw [hm, List.drop_succ_cons] at h
    exact hx (List.mem_of_mem_drop h)
  · exact c
theorem low_ok {w : Int} {l : List P2} (h : Ok l) : Ok (low w l) := fun p hp => h p (List.mem_filter.1 hp).1
theorem low_desc {w : Int} {l : List P2} (h : Desc l) : Desc (low w l) := List.Pairwise.filter _ h
theorem gone_iff {w : Int} {la lb : List P2} (c : UInt8) {p : P2} (ha : Ok la) (hb : Ok lb) (hp : In p.1) : stays w la lb c p = false ↔ ∃ o ∈ dels w la lb, o.1 = vkey c p.1 := by
  unfold stays
  rw [Bool.not_eq_false', List.any_eq_true]
  constructor
  · rintro ⟨o, h1, h2⟩; exact ⟨o, h1, (of_decide_eq_true h2).symm⟩
  · rintro ⟨o, h1, h2⟩; exact ⟨o, h1, decide_eq_true h2.symm⟩
/-- What is above the wall stays. -/
theorem stays_high {w : Int} {la lb : List P2} (c : UInt8) {p : P2} (ha : Ok la) (hb : Ok lb) (hp : In p.1) (h : w < p.1) : stays w la lb c p = true := by
  cases hs : stays w la lb c p with
  | true => rfl
  | false =>
    exfalso
    obtain ⟨o, h1, h2⟩ := (gone_iff c ha hb hp).1 hs
    obtain ⟨k, e⟩ := dels_drop w la lb
    rw [e] at h1
    rcases List.mem_append.1 (List.mem_of_mem_drop h1) with h3 | h3 <;> obtain ⟨q, hq, rfl⟩ := outs_mem h3
    · have := (vkey_inj (low_ok ha q hq) hp).1 h2
      have := of_decide_eq_true (List.mem_filter.1 hq).2
      omega
    · have := (vkey_inj (low_ok hb q hq) hp).1 h2
      have := of_decide_eq_true (List.mem_filter.1 hq).2
      omega
/-- If the newest one at or below the wall goes, it told that the key is gone, and all that are older go. -/
theorem newest_a {w : Int} {la lb : List P2} (ha : Ok la) (hb : Ok lb) (hd : Desc la) {p : P2} {t : List P2} (e : low w la = p :: t) (h : stays w la lb 97 p = false) : p.2 = false ∧ ∀ q ∈ low w la, stays w la lb 97 q = false := by
  have hin : ∀ q ∈ low w la, In q.1 := low_ok ha
  have hp : In p.1 := hin p (by rw [e]; exact List.mem_cons_self ..)
  obtain ⟨o, h1, h2⟩ := (gone_iff 97 ha hb hp).1 h
  obtain ⟨k, ek⟩ := dels_drop w la lb
  have hdd : Desc (p :: t) := e ▸ low_desc hd
  have hlt := (List.pairwise_cons.1 hdd).1
  have notin : ∀ q ∈ t, ¬ vkey 97 q.1 = vkey 97 p.1 := fun q hq e2 => by
    have := (vkey_inj (hin q (by rw [e]; exact List.mem_cons_of_mem _ hq)) hp).1 e2
    have := hlt q hq; omega
  have hop : p.2 = false ∧ o = gon 97 p := by
    rw [ek] at h1
    rcases List.mem_append.1 (List.mem_of_mem_drop h1) with h3 | h3
    · rw [e] at h3
      rcases List.mem_append.1 h3 with h4 | h4
      · cases hq : p.2 with
        | true => rw [hq] at h4; cases h4
        | false => rw [hq] at h4; simp at h4; exact ⟨rfl, h4⟩
      · obtain ⟨q, hq, rfl⟩ := List.mem_map.1 h4
        exact absurd h2 (notin q hq)
    · obtain ⟨q, hq, rfl⟩ := outs_mem h3
      have := (vkey_inj (low_ok hb q hq) hp).1 h2
      exact absurd (show (98 : UInt8) = 97 from this.1) (by decide)
  obtain ⟨hp2, rfl⟩ := hop
  refine ⟨hp2, fun q hq => ?_⟩
  have eo : outs 97 (low w la) ++ outs 98 (low w lb) = [] ++ gon 97 p :: (t.map (gon 97) ++ outs 98 (low w lb)) := by rw [e]; simp [outs, hp2]
  have hk : k ≤ ([] : List O3).length := by
    rw [ek, eo] at h1
    refine mem_drop_after h1 fun hm => ?_
    rcases List.mem_append.1 hm with h4 | h4
    · obtain ⟨q, hq, e2⟩ := List.mem_map.1 h4
      exact notin q hq (congrArg (·.1) e2)
    · obtain ⟨q, hq, e2⟩ := outs_mem h4
      have := (vkey_inj hp (low_ok hb q hq)).1 (congrArg (·.1) e2)
      exact absurd (show (97 : UInt8) = 98 from this.1) (by decide)
  have hk : k = 0 := by simpa using hk
  subst hk
  rw [List.drop_zero] at ek
  refine (gone_iff 97 ha hb (hin q hq)).2 ⟨gon 97 q, ?_, rfl⟩
  rw [ek, eo]
  rw [e] at hq
  rcases List.mem_cons.1 hq with rfl | hq
  · simp
  · simp only [List.nil_append, List.mem_cons, List.mem_append, List.mem_map]
    exact .inr (.inl ⟨q, hq, rfl⟩)
theorem newest_b {w : Int} {la lb : List P2} (ha : Ok la) (hb : Ok lb) (hd : Desc lb) {p : P2} {t : List P2} (e : low w lb = p :: t) (h : stays w la lb 98 p = false) : p.2 = false ∧ ∀ q ∈ low w lb, stays w la lb 98 q = false := by
  have hin : ∀ q ∈ low w lb, In q.1 := low_ok hb
  have hp : In p.1 := hin p (by rw [e]; exact List.mem_cons_self ..)
  obtain ⟨o, h1, h2⟩ := (gone_iff 98 ha hb hp).1 h
  obtain ⟨k, ek⟩ := dels_drop w la lb
  have hdd : Desc (p :: t) := e ▸ low_desc hd
  have hlt := (List.pairwise_cons.1 hdd).1
  have notin : ∀ q ∈ t, ¬ vkey 98 q.1 = vkey 98 p.1 := fun q hq e2 => by
    have := (vkey_inj (hin q (by rw [e]; exact List.mem_cons_of_mem _ hq)) hp).1 e2
    have := hlt q hq; omega
  have hop : p.2 = false ∧ o = gon 98 p := by
    rw [ek] at h1
    rcases List.mem_append.1 (List.mem_of_mem_drop h1) with h3 | h3
    · obtain ⟨q, hq, rfl⟩ := outs_mem h3
      have := (vkey_inj (low_ok ha q hq) hp).1 h2
      exact absurd (show (97 : UInt8) = 98 from this.1) (by decide)
    · rw [e] at h3
      rcases List.mem_append.1 h3 with h4 | h4
      · cases hq : p.2 with
        | true => rw [hq] at h4; cases h4
        | false => rw [hq] at h4; simp at h4; exact ⟨rfl, h4⟩
      · obtain ⟨q, hq, rfl⟩ := List.mem_map.1 h4
        exact absurd h2 (notin q hq)
  obtain ⟨hp2, rfl⟩ := hop
  refine ⟨hp2, fun q hq => ?_⟩
  have eo : outs 97 (low w la) ++ outs 98 (low w lb) = outs 97 (low w la) ++ gon 98 p :: t.map (gon 98) := by rw [e]; simp [outs, hp2]
  have hk : k ≤ (outs 97 (low w la)).length := by
    rw [ek, eo] at h1
    refine mem_drop_after h1 fun hm => ?_
    obtain ⟨q, hq, e2⟩ := List.mem_map.1 hm
    exact notin q hq (congrArg (·.1) e2)
  refine (gone_iff 98 ha hb (hin q hq)).2 ⟨gon 98 q, ?_, rfl⟩
  rw [ek, eo, List.drop_append_of_le_length hk]
  rw [e] at hq
  refine List.mem_append_right _ ?_
  rcases List.mem_cons.1 hq with rfl | hq
  · exact List.mem_cons_self ..
  · exact List.mem_cons_of_mem _ (List.mem_map.2 ⟨q, hq, rfl⟩)
/-! ### what is read -/
def pre (c : UInt8) (l : List P2) : List V3 := l.map fun p => (c, p)
theorem read_same {w i : Int} (hw : w < i) {c : UInt8} {l : List P2} {st : P2 → Bool} (hok : Ok l) (hd : Desc l) (hh : ∀ p ∈ l, w < p.1 → st p = true) (hn : ∀ p t, low w l = p :: t → st p = false → p.2 = false ∧ ∀ q ∈ low w l, st q = false) :
    keyR c i (pre c (low i (l.filter st))) = keyR c i (pre c (low i l)) ∨ (∃ x : V3, keyR c i (pre c (low i l)) = .tuple #[fnd15 c false x.2.1, .int .i64 0] ∧ keyR c i (pre c (low i (l.filter st))) = .tuple #[fnd15 c false 0, .int .i64 0]) := by
  have e : low i (l.filter st) = (low i l).filter st := by unfold low; rw [List.filter_filter, List.filter_filter]; exact List.filter_congr fun p _ => Bool.and_comm ..
  rw [e]
  cases hl : low i l with
  | nil => exact .inl rfl
  | cons p t =>
    have hpm : p ∈ low i l := by rw [hl]; exact List.mem_cons_self ..
    have hpl := (List.mem_filter.1 hpm).1
    have hpi := of_decide_eq_true (List.mem_filter.1 hpm).2
    cases hs : st p with
    | true =>
      left
      rw [List.filter_cons_of_pos hs]
      rfl
    | false =>
      have hpw : p.1 ≤ w := by
        rcases Int.lt_or_le w p.1 with h | h
        · rw [hh p hpl h] at hs; cases hs
        · exact h
      -- it is the newest one at or below the wall
      have hdd : Desc (p :: t) := hl ▸ (List.Pairwise.filter _ hd)
      have hlt := (List.pairwise_cons.1 hdd).1
      have ew : low w l = p :: t := by
        have : low w l = low w (low i l) := by
          unfold low; rw [List.filter_filter]
          exact List.filter_congr fun q _ => by
            by_cases h1 : q.1 ≤ w
            · have : q.1 ≤ i := by omega
              simp [h1, this]
            · simp [h1]
        rw [this, hl]
        unfold low
        rw [List.filter_eq_self.2 fun q hq => ?_]
        rcases List.mem_cons.1 hq with rfl | hq
        · exact decide_eq_true hpw
        · exact decide_eq_true (by have := hlt q hq; omega)
      obtain ⟨hp2, hall⟩ := hn p t ew hs
      rw [ew] at hall
      right
      refine ⟨(c, p), ?_, ?_⟩
      · show (bif decide (p.1 < i) then _ else _) = _
        rw [decide_eq_true (by omega), cond_true, show ((c, p) : V3).2.2 = false from hp2]
      · rw [List.filter_eq_nil_iff.2 fun q hq => by rw [hall q hq]; decide]
        rfl
end Go.Proofs.YtagbmfdheppmoaaGreatDoor.B
