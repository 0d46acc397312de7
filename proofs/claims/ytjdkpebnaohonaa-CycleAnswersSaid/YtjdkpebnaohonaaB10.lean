import Derived.Test.YtjdkpebnaohonaaB6
namespace Go.Proofs.Ytjdkpebnaohonaa.B
open Go.RowKit Go.Maps Go.Proofs.Ytjdkpebnaohonaa.Sep Go.Proofs.Ytjdkpebnaohonaa.P
set_option linter.unusedVariables false
set_option linter.unusedSimpArgs false
/-- What a search over all edges has found: Q, of which the first q are done, and of the next one the first k edges. -/
structure Rch (E : List Arc) (a : Int) (Q : List Int) (q k : Nat) : Prop where
  nd : Q.Nodup
  way : ∀ x ∈ Q, P.Way E a x
  from_ : ∀ b, (a, b) ∈ E → b ∈ Q
  old : ∀ (i : Nat) (x : Int), i < q → Q[i]? = some x → ∀ y, (x, y) ∈ E → y ∈ Q
  now : ∀ x, Q[q]? = some x → ∀ y, (x, y) ∈ E.take k → y ∈ Q
theorem ends_len {E : List Arc} {a : Int} {Q : List Int} (nd : Q.Nodup) (way : ∀ x ∈ Q, P.Way E a x) : Q.length ≤ E.length := by
  have := nodup_len (l := Q) (m := E.map (·.2)) nd fun x hx => by
    obtain ⟨c, hc⟩ := (way x hx).last
    exact List.mem_map.2 ⟨_, hc, rfl⟩
  simpa using this
theorem Rch.len {E : List Arc} {a : Int} {Q : List Int} {q k : Nat} (r : Rch E a Q q k) : Q.length ≤ E.length := ends_len r.nd r.way
theorem Rch.pass {E : List Arc} {a : Int} {Q : List Int} {q k : Nat} {v : Arc} (r : Rch E a Q q k) (hv : E[k]? = some v) (h : ∀ x, Q[q]? = some x → v.1 = x → v.2 ∈ Q) : Rch E a Q q (k + 1) := by
  obtain ⟨hk, rfl⟩ := List.getElem?_eq_some_iff.1 hv
  refine ⟨r.nd, r.way, r.from_, r.old, fun x hx y hy => ?_⟩
  rw [List.take_succ_eq_append_getElem hk] at hy
  rcases List.mem_append.1 hy with hy | hy
  · exact r.now x hx y hy
  · have : (x, y) = E[k] := by simpa using hy
    have h1 := h x hx (by rw [← this])
    rw [← this] at h1; exact h1
theorem Rch.more {E : List Arc} {a : Int} {Q : List Int} {q k : Nat} {v : Arc} {x : Int} (r : Rch E a Q q k) (hv : E[k]? = some v) (hx : Q[q]? = some x) (h1 : v.1 = x) (h2 : v.2 ∉ Q) : Rch E a (Q ++ [v.2]) q (k + 1) := by
  obtain ⟨hk, rfl⟩ := List.getElem?_eq_some_iff.1 hv
  have hq := (List.getElem?_eq_some_iff.1 hx).1
  have hxm := List.mem_of_getElem? hx
  have same : ∀ i, i ≤ q → (Q ++ [E[k].2])[i]? = Q[i]? := fun i hi => List.getElem?_append_left (by omega)
  refine ⟨?_, fun y hy => ?_, fun b hb => List.mem_append.2 (.inl (r.from_ b hb)), fun i y hi hy z hz => ?_, fun y hy z hz => ?_⟩
  · rw [List.nodup_append]
    exact ⟨r.nd, by simp, fun y hy z hz e => h2 (by rw [← List.mem_singleton.1 hz, ← e]; exact hy)⟩
  · rcases List.mem_append.1 hy with hy | hy
    · exact r.way y hy
    · have : y = E[k].2 := by simpa using hy
      subst this
      refine (r.way x hxm).snoc ?_
      rw [← h1]; exact List.getElem_mem hk
  · rw [same i (by omega)] at hy
    exact List.mem_append.2 (.inl (r.old i y hi hy z hz))
  · rw [same q (Nat.le_refl _)] at hy
    rw [List.take_succ_eq_append_getElem hk] at hz
    rcases List.mem_append.1 hz with hz | hz
    · exact List.mem_append.2 (.inl (r.now y hy z hz))
    · have : (y, z) = E[k] := by simpa using hz
      rw [← this]; simp
theorem Rch.next {E : List Arc} {a : Int} {Q : List Int} {q k : Nat} (r : Rch E a Q q k) (hk : E.length ≤ k) : Rch E a Q (q + 1) 0 := by
  refine ⟨r.nd, r.way, r.from_, fun i x hi hx y hy => ?_, by simp⟩
  by_cases h : i = q
  · subst h; exact r.now x hx y (by rw [List.take_of_length_le hk]; exact hy)
  · exact r.old i x (by omega) hx y hy
theorem Rch.all {E : List Arc} {a : Int} {Q : List Int} {q k : Nat} (r : Rch E a Q q k) (hq : Q.length ≤ q) (x : Int) : x ∈ Q ↔ P.Way E a x := by
  refine ⟨r.way x, fun w => ?_⟩
  have key : ∀ b c, P.Way E b c → b = a ∨ b ∈ Q → c ∈ Q := by
    have st : ∀ b c, (b, c) ∈ E → b = a ∨ b ∈ Q → c ∈ Q := by
      rintro b c e (rfl | h)
      · exact r.from_ c e
      · obtain ⟨i, hi, e2⟩ := List.mem_iff_getElem.1 h
        exact r.old i b (by omega) (by rw [List.getElem?_eq_getElem hi, e2]) c e
    intro b c h
    induction h with
    | one e => exact st _ _ e
    | step e _ ih => exact fun h => ih (.inr (st _ _ e h))
  exact key a x w (.inl rfl)
/-- The first loop: the edges of a among the first k. -/
structure Fst (E : List Arc) (a : Int) (Q : List Int) (k : Nat) : Prop where
  nd : Q.Nodup
  mem : ∀ x, x ∈ Q ↔ (a, x) ∈ E.take k
theorem Fst.len {E : List Arc} {a : Int} {Q : List Int} {k : Nat} (r : Fst E a Q k) : Q.length ≤ E.length :=
  ends_len r.nd fun x hx => .one (List.mem_of_mem_take ((r.mem x).1 hx))
theorem Fst.pass {E : List Arc} {a : Int} {Q : List Int} {k : Nat} {v : Arc} (r : Fst E a Q k) (hv : E[k]? = some v) (h : v.1 = a → v.2 ∈ Q) : Fst E a Q (k + 1) := by
  obtain ⟨hk, rfl⟩ := List.getElem?_eq_some_iff.1 hv
  refine ⟨r.nd, fun x => ?_⟩
  rw [List.take_succ_eq_append_getElem hk, List.mem_append, ← r.mem]
  refine ⟨.inl, fun q => q.elim id fun he => ?_⟩
  have : (a, x) = E[k] := by simpa using he
  have h1 := h (by rw [← this])
  rw [← this] at h1; exact h1
theorem Fst.more {E : List Arc} {a : Int} {Q : List Int} {k : Nat} {v : Arc} (r : Fst E a Q k) (hv : E[k]? = some v) (h1 : v.1 = a) (h2 : v.2 ∉ Q) : Fst E a (Q ++ [v.2]) (k + 1) := by
  obtain ⟨hk, rfl⟩ := List.getElem?_eq_some_iff.1 hv
  refine ⟨?_, fun x => ?_⟩
  · rw [List.nodup_append]
    exact ⟨r.nd, by simp, fun y hy z hz e => h2 (by rw [← List.mem_singleton.1 hz, ← e]; exact hy)⟩
  · rw [List.take_succ_eq_append_getElem hk, List.mem_append, List.mem_append, ← r.mem, List.mem_singleton, List.mem_singleton]
    refine or_congr_right ⟨fun e => by rw [e, ← h1], fun e => by rw [← e]⟩
theorem Fst.rch {E : List Arc} {a : Int} {Q : List Int} {k : Nat} (r : Fst E a Q k) (hk : E.length ≤ k) : Rch E a Q 0 0 := by
  have hm : ∀ x, x ∈ Q ↔ (a, x) ∈ E := fun x => by rw [r.mem, List.take_of_length_le hk]
  exact ⟨r.nd, fun x hx => .one ((hm x).1 hx), fun b hb => (hm b).2 hb, fun i x hi => by omega, by simp⟩
/-- The rings among the first ends of the first k edges. -/
structure Prt (E : List Arc) (k : Nat) (R : List Int) : Prop where
  rise : R.Pairwise (· < ·)
  mem : ∀ a, a ∈ R ↔ (∃ b, (a, b) ∈ E.take k) ∧ P.Way E a a
theorem Prt.start (E : List Arc) : Prt E 0 [] := ⟨by simp, by simp⟩
theorem Prt.all {E : List Arc} {k : Nat} {R : List Int} (p : Prt E k R) (h : E.length ≤ k) : RingsOf E R := by
  refine ⟨p.rise, fun a => ?_⟩
  rw [p.mem, List.take_of_length_le h]
  exact ⟨fun h => h.2, fun h => ⟨h.first, h⟩⟩
theorem Prt.pass {E : List Arc} {k : Nat} {R : List Int} {v : Arc} (p : Prt E k R) (hv : E[k]? = some v) (h : P.Way E v.1 v.1 → v.1 ∈ R) : Prt E (k + 1) R := by
  obtain ⟨hk, rfl⟩ := List.getElem?_eq_some_iff.1 hv
  refine ⟨p.rise, fun a => ?_⟩
  constructor
  · intro ha
    obtain ⟨⟨b, hb⟩, hw⟩ := (p.mem a).1 ha
    exact ⟨⟨b, by rw [List.take_succ_eq_append_getElem hk]; exact List.mem_append.2 (.inl hb)⟩, hw⟩
  · rintro ⟨⟨b, hb⟩, hw⟩
    rw [List.take_succ_eq_append_getElem hk] at hb
    rcases List.mem_append.1 hb with hb | hb
    · exact (p.mem a).2 ⟨⟨b, hb⟩, hw⟩
    · have : (a, b) = E[k] := by simpa using hb
      have e : a = E[k].1 := by rw [← this]
      rw [e] at hw ⊢
      exact h hw
/-- A rising list, and one more. -/
structure Ins (R : List Int) (a : Int) (Q : List Int) : Prop where
  rise : R.Pairwise (· < ·) → a ∉ R → Q.Pairwise (· < ·)
  mem : ∀ x, x ∈ Q ↔ x ∈ R ∨ x = a
  len : Q.length = R.length + 1
theorem Ins.of {R : List Int} {a : Int} {k : Nat} (hk : k ≤ R.length) (h1 : ∀ (i : Nat) (x : Int), i < k → R[i]? = some x → x < a) (h2 : ∀ x, R[k]? = some x → ¬ x < a) : Ins R a (R.take k ++ [a] ++ R.drop k) := by
  refine ⟨fun hr hn => ?_, fun x => ?_, by simp; omega⟩
  · rw [List.append_assoc, List.pairwise_append]
    have hd : ∀ x ∈ R.drop k, a < x := by
      intro x hx
      obtain ⟨i, hi, e⟩ := List.mem_iff_getElem.1 hx
      rw [List.length_drop] at hi
      rw [List.getElem_drop] at e
      have hkl : k < R.length := by omega
      have h3 := h2 R[k] (List.getElem?_eq_getElem hkl)
      have h4 : R[k] ≠ a := fun e => hn (by rw [← e]; exact List.getElem_mem hkl)
      by_cases h0 : i = 0
      · subst h0; simp only [Nat.add_zero] at e; omega
      · have := List.pairwise_iff_getElem.1 hr k (k + i) hkl (by omega) (by omega)
        omega
    have ht : ∀ x ∈ R.take k, x < a := by
      intro x hx
      obtain ⟨i, hi, e⟩ := List.mem_iff_getElem.1 hx
      rw [List.length_take] at hi
      rw [List.getElem_take] at e
      exact h1 i x (by omega) (by rw [List.getElem?_eq_getElem (by omega), e])
    refine ⟨hr.sublist (List.take_sublist _ _), List.pairwise_cons.2 ⟨hd, hr.sublist (List.drop_sublist _ _)⟩, fun x hx y hy => ?_⟩
    have hx := ht x hx
    rcases List.mem_cons.1 hy with rfl | hy
    · exact hx
    · have := hd y hy; omega
  · have : x ∈ R ↔ x ∈ R.take k ∨ x ∈ R.drop k := by rw [← List.mem_append, List.take_append_drop]
    rw [this]
    simp only [List.mem_append, List.mem_singleton]
    grind
theorem Prt.more {E : List Arc} {k : Nat} {R Q : List Int} {v : Arc} (p : Prt E k R) (hv : E[k]? = some v) (hn : v.1 ∉ R) (hw : P.Way E v.1 v.1) (h : Ins R v.1 Q) : Prt E (k + 1) Q := by
  obtain ⟨hk, rfl⟩ := List.getElem?_eq_some_iff.1 hv
  refine ⟨h.rise p.rise hn, fun a => ?_⟩
  rw [h.mem, p.mem, List.take_succ_eq_append_getElem hk]
  constructor
  · rintro (⟨⟨b, hb⟩, hw⟩ | rfl)
    · exact ⟨⟨b, List.mem_append.2 (.inl hb)⟩, hw⟩
    · exact ⟨⟨E[k].2, List.mem_append.2 (.inr (by simp))⟩, hw⟩
  · rintro ⟨⟨b, hb⟩, hw⟩
    rcases List.mem_append.1 hb with hb | hb
    · exact .inl ⟨⟨b, hb⟩, hw⟩
    · have : (a, b) = E[k] := by simpa using hb
      exact .inr (by rw [← this])

theorem id28_any (W : World) (L : List Chunk) (w : World) (n : Int) (s : St W L w) :
    Calls Try.prog 28 #[.int .i64 n] w fun e w' => e = .returned (.bool (isIdB n)) ∧ St W L w' := by
  refine enter_args (l := [.int .i64 n]) Try.func28 rfl rfl (Nat.le_of_ble_eq_true rfl) ?_
  intro a ha; replace ha : Has a 9 [(0, .int .i64 n)] := ha
  refine wp_seq ?_
  refine wp_region_lit ?_
  refine st_val (.bool false) ha (by kernel_rfl) (by kernel_rfl) ?_
  clear ha; intro a ha
  refine wpList_nil ?_
  refine then_normal ?_
  refine wp_seq ?_
  refine wp_region_lit ?_
  refine st_val (.int .i64 n) ha (by kernel_rfl) (by kernel_rfl) ?_
  clear ha; intro a ha
  refine st_val (.bool (decide (n ≥ (1 : Int)))) ha (by kernel_rfl) (by kernel_rfl) ?_
  clear ha; intro a ha
  refine st_val (.bool (decide (n ≥ (1 : Int)))) ha (by kernel_rfl) (by kernel_rfl) ?_
  clear ha; intro a ha
  rcases Bool.eq_false_or_eq_true (decide (n ≥ (1 : Int))) with hb | hb
  · rw [hb] at ha; replace hb : (n ≥ (1 : Int)) := of_decide_eq_true hb
    refine st_val (.int .i64 n) ha (by kernel_rfl) (by kernel_rfl) ?_
    clear ha; intro a ha
    refine st_val (.bool (decide (n ≤ (9007199254740991 : Int)))) ha (by kernel_rfl) (by kernel_rfl) ?_
    clear ha; intro a ha
    refine st_val (.bool (decide (n ≤ (9007199254740991 : Int)))) ha (by kernel_rfl) (by kernel_rfl) ?_
    clear ha; intro a ha
    refine st_val (.bool (decide (n ≤ (9007199254740991 : Int)))) ha (by kernel_rfl) (by kernel_rfl) ?_
    clear ha; intro a ha
    refine wpList_nil ?_
    refine then_normal ?_
    refine wp_ret ?_
    refine ret_with (v := .bool (decide (n ≤ (9007199254740991 : Int)))) ha (results_1 rfl ha (res_tmp (by kernel_rfl) (by kernel_rfl))) ?_
    refine ⟨?_, s⟩
    congr 2
    unfold isIdB
    first | (rw [decide_eq_true (by assumption)]; rfl) | (rw [decide_eq_false (by assumption)]; rfl) | simp_all
  · rw [hb] at ha; replace hb : ¬ (n ≥ (1 : Int)) := of_decide_eq_false hb
    refine st_pass ha (by kernel_rfl) ?_
    clear ha; intro a ha
    refine st_pass ha (by kernel_rfl) ?_
    clear ha; intro a ha
    refine st_val (.bool false) ha (by kernel_rfl) (by kernel_rfl) ?_
    clear ha; intro a ha
    refine st_val (.bool false) ha (by kernel_rfl) (by kernel_rfl) ?_
    clear ha; intro a ha
    refine wpList_nil ?_
    refine then_normal ?_
    refine wp_ret ?_
    refine ret_with (v := .bool false) ha (results_1 rfl ha (res_tmp (by kernel_rfl) (by kernel_rfl))) ?_
    refine ⟨?_, s⟩
    congr 2
    unfold isIdB
    first | (rw [decide_eq_true (by assumption)]; rfl) | (rw [decide_eq_false (by assumption)]; rfl) | simp_all

theorem has29_any (W : World) (L : List Chunk) (w : World) (A : Option Addr) (n ca : Nat) (la : List Int) (hra : Knows L fun w => Reads w 1 A n (ints la)) (hral : la.length = n) (hran : n ≤ 140737488351232) (q : Int) (s : St W L w) :
    Calls Try.prog 29 #[.slice A n ca, .int .i64 q] w fun e w' => e = .returned (.bool (decide (q ∈ la))) ∧ St W L w' := by
  refine enter_args (l := [.slice A n ca, .int .i64 q]) Try.func29 rfl rfl (Nat.le_of_ble_eq_true rfl) ?_
  intro a ha; replace ha : Has a 18 [(0, .slice A n ca), (1, .int .i64 q)] := ha
  refine wp_seq ?_
  refine wp_region_lit ?_
  refine st_val (.bool false) ha (by kernel_rfl) (by kernel_rfl) ?_
  clear ha; intro a ha
  refine wpList_nil ?_
  refine then_normal ?_
  refine wp_seq ?_
  refine wp_seq ?_
  refine wp_region_lit ?_
  refine st_val (.int .i64 0) ha (by kernel_rfl) (by kernel_rfl) ?_
  clear ha; intro a ha
  refine wpList_nil ?_
  refine then_normal ?_
  refine wp_block ?_
  refine wp_loopG (G := Nat) (fun k a w => Has a 18 [(0, .slice A n ca), (1, .int .i64 q), (5, .int .i64 ((k : Nat) : Int))] ∧ St W (L) w ∧ (k ≤ n ∧ ∀ i, i < k → la[i]? ≠ some q)) (fun k => n - k) 0 ?_ ?_
  · exact ⟨(Has.cons ha (by kernel_rfl) (by kernel_rfl) (Has.cons ha (by kernel_rfl) (by kernel_rfl) (Has.cons ha (by kernel_rfl) (by kernel_rfl) (Has.nil ha)))), s, ⟨Nat.zero_le _, fun i hi => absurd hi (Nat.not_lt_zero _)⟩⟩
  · clear ha s; rintro k a w ⟨ha, s, hp⟩
    refine wp_seq ?_
    refine wp_seq ?_
    refine wp_region_lit ?_
    refine st_val (.int .i64 ((k : Nat) : Int)) ha (by kernel_rfl) (by kernel_rfl) ?_
    clear ha; intro a ha
    refine st_val (.slice A n ca) ha (by kernel_rfl) (by kernel_rfl) ?_
    clear ha; intro a ha
    refine st_val (.int .i64 ((n : Nat) : Int)) ha (by kernel_rfl) (by kernel_rfl) ?_
    clear ha; intro a ha
    refine st_val (.bool (decide (((k : Nat) : Int) < ((n : Nat) : Int)))) ha (by kernel_rfl) (by kernel_rfl) ?_
    clear ha; intro a ha
    refine wpList_nil ?_
    refine then_normal ?_
    refine wp_part (decide (((k : Nat) : Int) < ((n : Nat) : Int))) ha rfl (by kernel_rfl) (fun hb => ?_) (fun hb => ?_)
    · rw [hb] at ha; replace hb : (((k : Nat) : Int) < ((n : Nat) : Int)) := of_decide_eq_true hb
      obtain ⟨x, hx⟩ : ∃ x, la[k]? = some x := ⟨_, List.getElem?_eq_getElem (by omega)⟩
      obtain ⟨ada, hA⟩ := Reads.addr (hra _ s.sat) (by omega)
      subst hA
      refine wp_skip ?_
      refine then_normal ?_
      refine wp_seq ?_
      refine wp_block ?_
      refine wp_seq ?_
      refine wp_region_lit ?_
      refine st_val (.slice (some ada) n ca) ha (by kernel_rfl) (by kernel_rfl) ?_
      clear ha; intro a ha
      refine st_val (.int .i64 ((k : Nat) : Int)) ha (by kernel_rfl) (by kernel_rfl) ?_
      clear ha; intro a ha
      refine st_val (.pointer (some (ada.add (k * 1)))) ha (by kernel_rfl) (run_indexAddr' (kd := .i64) (i := ((k : Nat) : Int)) (n := n) (c := ca) k rfl Try.underlying25 Try.sizeOf3 (by kernel_rfl) (by kernel_rfl) rfl (by first | assumption | omega) _) ?_
      clear ha; intro a ha
      refine st_val (.int .i64 x) ha (by kernel_rfl) (run_loadAt1 (i := k * 1) ((hra _ s.sat)) rfl (by kernel_rfl) Try.isAgg3 (by rw [Nat.mul_one]; exact ints_at hx)) ?_
      clear ha; intro a ha
      refine st_val (.int .i64 q) ha (by kernel_rfl) (by kernel_rfl) ?_
      clear ha; intro a ha
      refine st_val (.bool (x == q)) ha (by kernel_rfl) (by kernel_rfl) ?_
      clear ha; intro a ha
      refine wpList_nil ?_
      refine then_normal ?_
      refine wp_part (x == q) ha rfl (by kernel_rfl) (fun hb => ?_) (fun hb => ?_)
      · rw [hb] at ha; have hb_ := hb; replace hb := eq_of_beq hb
        refine wp_seq ?_
        refine wp_region_lit ?_
        refine st_val (.bool true) ha (by kernel_rfl) (by kernel_rfl) ?_
        clear ha; intro a ha
        refine wpList_nil ?_
        refine then_normal ?_
        refine wp_ret ?_
        refine block_ret ?_
        refine then_ret ?_
        refine then_ret ?_
        refine block_ret ?_
        refine then_ret ?_
        refine ret_with (v := .bool true) ha (results_1 rfl ha (res_tmp (by kernel_rfl) (by kernel_rfl))) ?_
        refine ⟨?_, s⟩
        rw [decide_eq_true]
        rw [← hb]; exact List.mem_of_getElem? hx
      · rw [hb] at ha; have hb_ := hb; replace hb := ne_of_beq_false hb
        refine wp_skip ?_
        refine block_normal ?_
        refine then_normal ?_
        refine wp_region_lit ?_
        refine st_val (.int .i64 ((k : Nat) : Int)) ha (by kernel_rfl) (by kernel_rfl) ?_
        clear ha; intro a ha
        refine st_val (.int .i64 ((k + 1 : Nat) : Int)) ha (by kernel_rfl) (run_arith (((k : Nat) : Int) + (1 : Int)) ((k + 1 : Nat) : Int) rfl (by kernel_rfl) (by kernel_rfl) (.inl ⟨rfl, rfl⟩) (by rw [wrap64_in (by omega)]; try omega) _) ?_
        clear ha; intro a ha
        refine st_val (.int .i64 ((k + 1 : Nat) : Int)) ha (by kernel_rfl) (by kernel_rfl) ?_
        clear ha; intro a ha
        refine wpList_nil ?_
        refine then_normal ?_
        exact ⟨k + 1, by omega, (Has.cons ha (by kernel_rfl) (by kernel_rfl) (Has.cons ha (by kernel_rfl) (by kernel_rfl) (Has.cons ha (by kernel_rfl) (by kernel_rfl) (Has.nil ha)))), s, by omega, fun i hi => by
        rcases Nat.lt_or_ge i k with h | h
        · exact hp.2 i h
        · have hik : i = k := by omega
          rw [hik, hx]; exact fun h => hb (Option.some.inj h)⟩
    · rw [hb] at ha; replace hb : ¬ (((k : Nat) : Int) < ((n : Nat) : Int)) := of_decide_eq_false hb
      refine wp_exit ?_
      refine then_exit ?_
      refine then_exit ?_
      refine block_hit ?_
      refine then_normal ?_
      refine wp_seq ?_
      refine wp_region_lit ?_
      refine st_val (.bool false) ha (by kernel_rfl) (by kernel_rfl) ?_
      clear ha; intro a ha
      refine wpList_nil ?_
      refine then_normal ?_
      refine wp_ret ?_
      refine ret_with (v := .bool false) ha (results_1 rfl ha (res_tmp (by kernel_rfl) (by kernel_rfl))) ?_
      refine ⟨?_, s⟩
      rw [decide_eq_false]
      intro hm
      obtain ⟨i, hi, e⟩ := List.mem_iff_getElem.1 hm
      exact hp.2 i (by omega) (by rw [List.getElem?_eq_getElem hi, e])

set_option maxHeartbeats 1000000 in
theorem reached_any (W : World) (L : List Chunk) (w : World) (A : Option Addr) (n ca : Nat) (E : List Arc) (hr : Knows L fun w => Reads w 2 A n (egs E)) (hl : E.length = n) (hn : n ≤ 1000) (a0 : Int) (s : St W L w) :
    Calls Try.prog 30 #[.slice A n ca, .int .i64 a0] w fun e w' => ∃ A' c' Q, e = .returned (.slice A' Q.length c') ∧ (∀ x, x ∈ Q ↔ P.Way E a0 x) ∧ Q.length ≤ n ∧ St W (Own 3 1 A' Q.length c' (ints Q) :: L) w' := by
  refine enter_args (l := [.slice A n ca, .int .i64 a0]) Try.func30 rfl rfl (Nat.le_of_ble_eq_true rfl) ?_
  intro a ha; replace ha : Has a 81 [(0, .slice A n ca), (1, .int .i64 a0)] := ha
  refine wp_seq ?_
  refine wp_region_lit ?_
  refine st_val (.slice none 0 0) ha (by kernel_rfl) (by kernel_rfl) ?_
  clear ha; intro a ha
  refine wpList_nil ?_
  refine then_normal ?_
  refine wp_seq ?_
  refine wp_region_lit ?_
  refine st_val (.slice none 0 0) ha (by kernel_rfl) (by kernel_rfl) ?_
  clear ha; intro a ha
  refine wpList_nil ?_
  refine then_normal ?_
  refine wp_seq ?_
  refine wp_seq ?_
  refine wp_region_lit ?_
  refine st_val (.int .i64 0) ha (by kernel_rfl) (by kernel_rfl) ?_
  clear ha; intro a ha
  refine wpList_nil ?_
  refine then_normal ?_
  refine wp_block ?_
  replace s := Own.none_ (e := 3) (k := 1) none s
  refine wp_loopG (G := (Nat × List Int × Option Addr × Nat)) (fun ⟨k, Q, Ao, co⟩ a w => Has a 81 [(0, .slice A n ca), (1, .int .i64 a0), (5, .slice Ao Q.length co), (6, .int .i64 ((k : Nat) : Int))] ∧ St W (Own 3 1 Ao Q.length co (ints Q) :: L) w ∧ (k ≤ n ∧ Fst E a0 Q k)) (fun ⟨k, Q, Ao, co⟩ => n - k) (0, [], none, 0) ?_ ?_
  · exact ⟨(Has.cons ha (by kernel_rfl) (by kernel_rfl) (Has.cons ha (by kernel_rfl) (by kernel_rfl) (Has.cons ha (by kernel_rfl) (by kernel_rfl) (Has.cons ha (by kernel_rfl) (by kernel_rfl) (Has.nil ha))))), s, ⟨Nat.zero_le _, ⟨by simp, by simp⟩⟩⟩
  · clear ha s; rintro ⟨k, Q, Ao, co⟩ a w ⟨ha, s, hp⟩
    refine wp_seq ?_
    refine wp_seq ?_
    refine wp_region_lit ?_
    refine st_val (.int .i64 ((k : Nat) : Int)) ha (by kernel_rfl) (by kernel_rfl) ?_
    clear ha; intro a ha
    refine st_val (.slice A n ca) ha (by kernel_rfl) (by kernel_rfl) ?_
    clear ha; intro a ha
    refine st_val (.int .i64 ((n : Nat) : Int)) ha (by kernel_rfl) (by kernel_rfl) ?_
    clear ha; intro a ha
    refine st_val (.bool (decide (((k : Nat) : Int) < ((n : Nat) : Int)))) ha (by kernel_rfl) (by kernel_rfl) ?_
    clear ha; intro a ha
    refine wpList_nil ?_
    refine then_normal ?_
    refine wp_part (decide (((k : Nat) : Int) < ((n : Nat) : Int))) ha rfl (by kernel_rfl) (fun hb => ?_) (fun hb => ?_)
    · rw [hb] at ha; replace hb : (((k : Nat) : Int) < ((n : Nat) : Int)) := of_decide_eq_true hb
      obtain ⟨v, hv⟩ : ∃ v, E[k]? = some v := ⟨_, List.getElem?_eq_getElem (by omega)⟩
      obtain ⟨ade, hA⟩ := Reads.addr (hr _ s.sat.tail) (by omega)
      subst hA
      have hQl := hp.2.len
      refine wp_skip ?_
      refine then_normal ?_
      refine wp_seq ?_
      refine wp_block ?_
      refine wp_seq ?_
      refine wp_region_lit ?_
      refine st_val (.slice (some ade) n ca) ha (by kernel_rfl) (by kernel_rfl) ?_
      clear ha; intro a ha
      refine st_val (.int .i64 ((k : Nat) : Int)) ha (by kernel_rfl) (by kernel_rfl) ?_
      clear ha; intro a ha
      refine st_val (.pointer (some (ade.add (k * 2)))) ha (by kernel_rfl) (run_indexAddr' (kd := .i64) (i := ((k : Nat) : Int)) (n := n) (c := ca) k rfl Try.underlying22 Try.sizeOf37 (by kernel_rfl) (by kernel_rfl) rfl (by first | assumption | omega) _) ?_
      clear ha; intro a ha
      refine st_val (.pointer (some (ade.add (k * 2 + 0 * 1)))) ha (by kernel_rfl) (run_indexArr_at (kd := .i64) (i := k * 2) (z := 0) 0 rfl Try.underlying37 Try.sizeOf3 (by kernel_rfl) (by kernel_rfl) rfl (by first | assumption | omega) _) ?_
      clear ha; intro a ha
      refine st_val (.int .i64 v.1) ha (by kernel_rfl) (run_loadAt1 (i := k * 2 + 0 * 1) ((hr _ s.sat.tail)) rfl (by kernel_rfl) Try.isAgg3 (by rw [Nat.mul_one]; rw [egs_at hv (by omega)]; rfl)) ?_
      clear ha; intro a ha
      refine st_val (.int .i64 a0) ha (by kernel_rfl) (by kernel_rfl) ?_
      clear ha; intro a ha
      refine st_val (.bool (v.1 == a0)) ha (by kernel_rfl) (by kernel_rfl) ?_
      clear ha; intro a ha
      refine st_val (.bool (v.1 == a0)) ha (by kernel_rfl) (by kernel_rfl) ?_
      clear ha; intro a ha
      rcases Bool.eq_false_or_eq_true (v.1 == a0) with hb | hb
      · rw [hb] at ha; have hb_ := hb; replace hb := eq_of_beq hb
        have hva := hb
        refine st_val (.slice Ao Q.length co) ha (by kernel_rfl) (by kernel_rfl) ?_
        clear ha; intro a ha
        refine st_val (.slice (some ade) n ca) ha (by kernel_rfl) (by kernel_rfl) ?_
        clear ha; intro a ha
        refine st_val (.int .i64 ((k : Nat) : Int)) ha (by kernel_rfl) (by kernel_rfl) ?_
        clear ha; intro a ha
        refine st_val (.pointer (some (ade.add (k * 2)))) ha (by kernel_rfl) (run_indexAddr' (kd := .i64) (i := ((k : Nat) : Int)) (n := n) (c := ca) k rfl Try.underlying22 Try.sizeOf37 (by kernel_rfl) (by kernel_rfl) rfl (by first | assumption | omega) _) ?_
        clear ha; intro a ha
        refine st_val (.pointer (some (ade.add (k * 2 + 1 * 1)))) ha (by kernel_rfl) (run_indexArr_at (kd := .i64) (i := k * 2) (z := 1) 1 rfl Try.underlying37 Try.sizeOf3 (by kernel_rfl) (by kernel_rfl) rfl (by first | assumption | omega) _) ?_
        clear ha; intro a ha
        refine st_val (.int .i64 v.2) ha (by kernel_rfl) (run_loadAt1 (i := k * 2 + 1 * 1) ((hr _ s.sat.tail)) rfl (by kernel_rfl) Try.isAgg3 (by rw [Nat.mul_one]; rw [egs_at hv (by omega)]; rfl)) ?_
        clear ha; intro a ha
        refine st_call ha (by kernel_rfl) (by kernel_rfl) (has29_any W _ w Ao Q.length co Q (Knows.own (j := 0) rfl) rfl (by omega) v.2 s) ?_
        rintro _ w ⟨rfl, s⟩
        replace s : St W (Own 3 1 Ao Q.length co (ints Q) :: L) w := s
        refine ⟨_, rfl, ?_⟩; clear ha; intro a ha
        refine st_val (.bool (!(decide (v.2 ∈ Q)))) ha (by kernel_rfl) (by kernel_rfl) ?_
        clear ha; intro a ha
        refine st_val (.bool (!(decide (v.2 ∈ Q)))) ha (by kernel_rfl) (by kernel_rfl) ?_
        clear ha; intro a ha
        refine wpList_nil ?_
        refine then_normal ?_
        refine wp_part (!(decide (v.2 ∈ Q))) ha rfl (by kernel_rfl) (fun hb => ?_) (fun hb => ?_)
        · rw [hb] at ha; skip
          have hnq : v.2 ∉ Q := by simpa using hb
          refine wp_region_lit ?_
          refine st_val (.slice Ao Q.length co) ha (by kernel_rfl) (by kernel_rfl) ?_
          clear ha; intro a ha
          refine st_val (.slice (some ade) n ca) ha (by kernel_rfl) (by kernel_rfl) ?_
          clear ha; intro a ha
          refine st_val (.int .i64 ((k : Nat) : Int)) ha (by kernel_rfl) (by kernel_rfl) ?_
          clear ha; intro a ha
          refine st_val (.pointer (some (ade.add (k * 2)))) ha (by kernel_rfl) (run_indexAddr' (kd := .i64) (i := ((k : Nat) : Int)) (n := n) (c := ca) k rfl Try.underlying22 Try.sizeOf37 (by kernel_rfl) (by kernel_rfl) rfl (by first | assumption | omega) _) ?_
          clear ha; intro a ha
          refine st_val (.pointer (some (ade.add (k * 2 + 1 * 1)))) ha (by kernel_rfl) (run_indexArr_at (kd := .i64) (i := k * 2) (z := 1) 1 rfl Try.underlying37 Try.sizeOf3 (by kernel_rfl) (by kernel_rfl) rfl (by first | assumption | omega) _) ?_
          clear ha; intro a ha
          refine st_val (.int .i64 v.2) ha (by kernel_rfl) (run_loadAt1 (i := k * 2 + 1 * 1) ((hr _ s.sat.tail)) rfl (by kernel_rfl) Try.isAgg3 (by rw [Nat.mul_one]; rw [egs_at hv (by omega)]; rfl)) ?_
          clear ha; intro a ha
          refine st_ex ha (by kernel_rfl) (ex_buildSlice elt25 _ zs25 [.int .i64 v.2] s rfl (by kernel_rfl) (by decide)) ?_
          clear ha; rintro _ w a ⟨g1, rfl, s⟩ ha
          replace s : St W (.blk g1 [.int .i64 v.2] 3 :: Own 3 1 Ao Q.length co (ints Q) :: L) w := s
          refine st_ex ha (by kernel_rfl) (ex_append (m := 1) (d' := 1) elt25 (by decide) 1 [.int .i64 v.2] s rfl (by kernel_rfl) (by kernel_rfl) rfl (reads_blk (s.blkIs 0 rfl) rfl) (by simp [Value.oneCell']) (by simp only [maxLen]; omega) (by omega)) ?_
          clear ha; rintro _ w a ⟨A2, c3, rfl, hA_, s⟩ ha
          replace s : St W (.blk g1 [.int .i64 v.2] 3 :: Own 3 1 A2 (Q.length + 1) c3 ((ints Q) ++ [.int .i64 v.2]) :: L) w := s
          refine st_val (.slice A2 (Q.length + 1) c3) ha (by kernel_rfl) (by kernel_rfl) ?_
          clear ha; intro a ha
          refine wpList_nil ?_
          refine block_normal ?_
          refine then_normal ?_
          refine wp_region_lit ?_
          refine st_val (.int .i64 ((k : Nat) : Int)) ha (by kernel_rfl) (by kernel_rfl) ?_
          clear ha; intro a ha
          refine st_val (.int .i64 ((k + 1 : Nat) : Int)) ha (by kernel_rfl) (run_arith (((k : Nat) : Int) + (1 : Int)) ((k + 1 : Nat) : Int) rfl (by kernel_rfl) (by kernel_rfl) (.inl ⟨rfl, rfl⟩) (by rw [wrap64_in (by omega)]; try omega) _) ?_
          clear ha; intro a ha
          refine st_val (.int .i64 ((k + 1 : Nat) : Int)) ha (by kernel_rfl) (by kernel_rfl) ?_
          clear ha; intro a ha
          refine wpList_nil ?_
          refine then_normal ?_
          replace s := s.at_ (j := 1) rfl
          replace s : St W (Own 3 1 A2 (Q.length + 1) c3 ((ints Q) ++ [.int .i64 v.2]) :: .blk g1 [.int .i64 v.2] 3 :: L) w := s
          replace s : St W (Own 3 1 A2 (Q.length + 1) c3 ((ints Q) ++ [.int .i64 v.2]) :: L) w := St.mid (A := [Own 3 1 A2 (Q.length + 1) c3 ((ints Q) ++ [.int .i64 v.2])]) (B := [.blk g1 [.int .i64 v.2] 3]) s
          replace s : St W (Own 3 1 A2 ((Q ++ [v.2]).length) c3 (ints (Q ++ [v.2])) :: L) w := by rw [show (Q ++ [v.2]).length = Q.length + 1 by simp, ints, List.map_append]; exact s
          exact ⟨(k + 1, (Q ++ [v.2]), A2, c3), (show n - (k + 1) < n - k by omega), (Has.cons ha (by kernel_rfl) (by kernel_rfl) (Has.cons ha (by kernel_rfl) (by kernel_rfl) (Has.cons ha (by kernel_rfl) (by rw [show (Q ++ [v.2]).length = Q.length + 1 by simp]; kernel_rfl) (Has.cons ha (by kernel_rfl) (by kernel_rfl) (Has.nil ha))))), s, by omega, hp.2.more hv hva hnq⟩
        · rw [hb] at ha; skip
          have hq : v.2 ∈ Q := by simpa using hb
          refine wp_skip ?_
          refine block_normal ?_
          refine then_normal ?_
          refine wp_region_lit ?_
          refine st_val (.int .i64 ((k : Nat) : Int)) ha (by kernel_rfl) (by kernel_rfl) ?_
          clear ha; intro a ha
          refine st_val (.int .i64 ((k + 1 : Nat) : Int)) ha (by kernel_rfl) (run_arith (((k : Nat) : Int) + (1 : Int)) ((k + 1 : Nat) : Int) rfl (by kernel_rfl) (by kernel_rfl) (.inl ⟨rfl, rfl⟩) (by rw [wrap64_in (by omega)]; try omega) _) ?_
          clear ha; intro a ha
          refine st_val (.int .i64 ((k + 1 : Nat) : Int)) ha (by kernel_rfl) (by kernel_rfl) ?_
          clear ha; intro a ha
          refine wpList_nil ?_
          refine then_normal ?_
          exact ⟨(k + 1, Q, Ao, co), (show n - (k + 1) < n - k by omega), (Has.cons ha (by kernel_rfl) (by kernel_rfl) (Has.cons ha (by kernel_rfl) (by kernel_rfl) (Has.cons ha (by kernel_rfl) (by kernel_rfl) (Has.cons ha (by kernel_rfl) (by kernel_rfl) (Has.nil ha))))), s, by omega, hp.2.pass hv (by first | exact fun h => absurd h hb | exact fun _ => hq)⟩
      · rw [hb] at ha; have hb_ := hb; replace hb := ne_of_beq_false hb
        refine st_pass ha (by kernel_rfl) ?_
        clear ha; intro a ha
        refine st_pass ha (by kernel_rfl) ?_
        clear ha; intro a ha
        refine st_pass ha (by kernel_rfl) ?_
        clear ha; intro a ha
        refine st_pass ha (by kernel_rfl) ?_
        clear ha; intro a ha
        refine st_pass ha (by kernel_rfl) ?_
        clear ha; intro a ha
        refine st_pass ha (by kernel_rfl) ?_
        clear ha; intro a ha
        refine st_pass ha (by kernel_rfl) ?_
        clear ha; intro a ha
        refine st_pass ha (by kernel_rfl) ?_
        clear ha; intro a ha
        refine st_val (.bool false) ha (by kernel_rfl) (by kernel_rfl) ?_
        clear ha; intro a ha
        refine wpList_nil ?_
        refine then_normal ?_
        refine wp_false ha rfl (by kernel_rfl) ?_
        refine wp_skip ?_
        refine block_normal ?_
        refine then_normal ?_
        refine wp_region_lit ?_
        refine st_val (.int .i64 ((k : Nat) : Int)) ha (by kernel_rfl) (by kernel_rfl) ?_
        clear ha; intro a ha
        refine st_val (.int .i64 ((k + 1 : Nat) : Int)) ha (by kernel_rfl) (run_arith (((k : Nat) : Int) + (1 : Int)) ((k + 1 : Nat) : Int) rfl (by kernel_rfl) (by kernel_rfl) (.inl ⟨rfl, rfl⟩) (by rw [wrap64_in (by omega)]; try omega) _) ?_
        clear ha; intro a ha
        refine st_val (.int .i64 ((k + 1 : Nat) : Int)) ha (by kernel_rfl) (by kernel_rfl) ?_
        clear ha; intro a ha
        refine wpList_nil ?_
        refine then_normal ?_
        exact ⟨(k + 1, Q, Ao, co), (show n - (k + 1) < n - k by omega), (Has.cons ha (by kernel_rfl) (by kernel_rfl) (Has.cons ha (by kernel_rfl) (by kernel_rfl) (Has.cons ha (by kernel_rfl) (by kernel_rfl) (Has.cons ha (by kernel_rfl) (by kernel_rfl) (Has.nil ha))))), s, by omega, hp.2.pass hv (by first | exact fun h => absurd h hb | exact fun _ => hq)⟩
    · rw [hb] at ha; replace hb : ¬ (((k : Nat) : Int) < ((n : Nat) : Int)) := of_decide_eq_false hb
      refine wp_exit ?_
      refine then_exit ?_
      refine then_exit ?_
      refine block_hit ?_
      refine then_normal ?_
      refine wp_seq ?_
      refine wp_seq ?_
      refine wp_region_lit ?_
      refine st_val (.int .i64 0) ha (by kernel_rfl) (by kernel_rfl) ?_
      clear ha; intro a ha
      refine wpList_nil ?_
      refine then_normal ?_
      refine wp_block ?_
      have hrc := hp.2.rch (by omega); clear hp
      refine wp_loopG (G := (Nat × List Int × Option Addr × Nat)) (fun ⟨q, Q, Ao, co⟩ a w => Has a 81 [(0, .slice A n ca), (5, .slice Ao Q.length co), (7, .int .i64 ((q : Nat) : Int))] ∧ St W (Own 3 1 Ao Q.length co (ints Q) :: L) w ∧ (Rch E a0 Q q 0)) (fun ⟨q, Q, Ao, co⟩ => n - q) (0, Q, Ao, co) ?_ ?_
      · exact ⟨(Has.cons ha (by kernel_rfl) (by kernel_rfl) (Has.cons ha (by kernel_rfl) (by kernel_rfl) (Has.cons ha (by kernel_rfl) (by kernel_rfl) (Has.nil ha)))), s, hrc⟩
      · clear ha s; rintro ⟨q, Q, Ao, co⟩ a w ⟨ha, s, hp⟩
        refine wp_seq ?_
        refine wp_seq ?_
        refine wp_region_lit ?_
        refine st_val (.int .i64 ((q : Nat) : Int)) ha (by kernel_rfl) (by kernel_rfl) ?_
        clear ha; intro a ha
        refine st_val (.slice Ao Q.length co) ha (by kernel_rfl) (by kernel_rfl) ?_
        clear ha; intro a ha
        refine st_val (.int .i64 ((Q.length : Nat) : Int)) ha (by kernel_rfl) (by kernel_rfl) ?_
        clear ha; intro a ha
        refine st_val (.bool (decide (((q : Nat) : Int) < ((Q.length : Nat) : Int)))) ha (by kernel_rfl) (by kernel_rfl) ?_
        clear ha; intro a ha
        refine wpList_nil ?_
        refine then_normal ?_
        refine wp_part (decide (((q : Nat) : Int) < ((Q.length : Nat) : Int))) ha rfl (by kernel_rfl) (fun hb => ?_) (fun hb => ?_)
        · rw [hb] at ha; replace hb : (((q : Nat) : Int) < ((Q.length : Nat) : Int)) := of_decide_eq_true hb
          have hQl := hp.len
          refine wp_skip ?_
          refine then_normal ?_
          refine wp_seq ?_
          refine wp_block ?_
          refine wp_seq ?_
          refine wp_region_lit ?_
          refine st_val (.int .i64 0) ha (by kernel_rfl) (by kernel_rfl) ?_
          clear ha; intro a ha
          refine wpList_nil ?_
          refine then_normal ?_
          refine wp_block ?_
          have hql : q < Q.length := by omega
          have hpq0 := hp; clear hp
          refine wp_loopG (G := (Nat × List Int × Option Addr × Nat)) (fun ⟨k, Q, Ao, co⟩ a w => Has a 81 [(0, .slice A n ca), (5, .slice Ao Q.length co), (7, .int .i64 ((q : Nat) : Int)), (8, .int .i64 ((k : Nat) : Int))] ∧ St W (Own 3 1 Ao Q.length co (ints Q) :: L) w ∧ (k ≤ n ∧ q < Q.length ∧ Rch E a0 Q q k)) (fun ⟨k, Q, Ao, co⟩ => n - k) (0, Q, Ao, co) ?_ ?_
          · exact ⟨(Has.cons ha (by kernel_rfl) (by kernel_rfl) (Has.cons ha (by kernel_rfl) (by kernel_rfl) (Has.cons ha (by kernel_rfl) (by kernel_rfl) (Has.cons ha (by kernel_rfl) (by kernel_rfl) (Has.nil ha))))), s, ⟨Nat.zero_le _, hql, hpq0⟩⟩
          · clear ha s; rintro ⟨k, Q, Ao, co⟩ a w ⟨ha, s, hp⟩
            refine wp_seq ?_
            refine wp_seq ?_
            refine wp_region_lit ?_
            refine st_val (.int .i64 ((k : Nat) : Int)) ha (by kernel_rfl) (by kernel_rfl) ?_
            clear ha; intro a ha
            refine st_val (.slice A n ca) ha (by kernel_rfl) (by kernel_rfl) ?_
            clear ha; intro a ha
            refine st_val (.int .i64 ((n : Nat) : Int)) ha (by kernel_rfl) (by kernel_rfl) ?_
            clear ha; intro a ha
            refine st_val (.bool (decide (((k : Nat) : Int) < ((n : Nat) : Int)))) ha (by kernel_rfl) (by kernel_rfl) ?_
            clear ha; intro a ha
            refine wpList_nil ?_
            refine then_normal ?_
            refine wp_part (decide (((k : Nat) : Int) < ((n : Nat) : Int))) ha rfl (by kernel_rfl) (fun hb => ?_) (fun hb => ?_)
            · rw [hb] at ha; replace hb : (((k : Nat) : Int) < ((n : Nat) : Int)) := of_decide_eq_true hb
              obtain ⟨v, hv⟩ : ∃ v, E[k]? = some v := ⟨_, List.getElem?_eq_getElem (by omega)⟩
              obtain ⟨ade, hA⟩ := Reads.addr (hr _ s.sat.tail) (by omega)
              subst hA
              have hQl := hp.2.2.len
              have hq2 := hp.2.1
              obtain ⟨x, hx⟩ : ∃ x, Q[q]? = some x := ⟨_, List.getElem?_eq_getElem (by omega)⟩
              obtain ⟨adq, hAq⟩ := Own.addr (s.at_ (j := 0) rfl) (by omega)
              subst hAq
              refine wp_skip ?_
              refine then_normal ?_
              refine wp_seq ?_
              refine wp_block ?_
              refine wp_seq ?_
              refine wp_region_head 17 (fun w => Reads w 2 (some ade) n (egs E) ∧ Reads w 1 (some adq) Q.length (ints Q) ∧ True) (by kernel_rfl) (by decide) ?_
              replace s := s.drew; generalize _root_.Go.World.drew _ = w at s ⊢
              have hS : (fun w => Reads w 2 (some ade) n (egs E) ∧ Reads w 1 (some adq) Q.length (ints Q) ∧ True) w := ⟨(hr _ s.sat.tail), (Knows.own (j := 0) rfl) _ s.sat, trivial⟩
              refine hd_val (i := 0) (.slice (some ade) n ca) ha rfl (by kernel_rfl) (fun _ _ _ h => h) (by kernel_rfl) (fun w hS => (by kernel_rfl)) hS ?_
              clear ha; intro a ha
              refine hd_val (i := 1) (.int .i64 ((k : Nat) : Int)) ha rfl (by kernel_rfl) (fun _ _ _ h => h) (by kernel_rfl) (fun w hS => (by kernel_rfl)) hS ?_
              clear ha; intro a ha
              refine hd_val (i := 2) (.pointer (some (ade.add (k * 2)))) ha rfl (by kernel_rfl) (fun _ _ _ h => h) (by kernel_rfl) (fun w hS => (run_indexAddr' (kd := .i64) (i := ((k : Nat) : Int)) (n := n) (c := ca) k rfl Try.underlying22 Try.sizeOf37 (by kernel_rfl) (by kernel_rfl) rfl (by first | assumption | omega) _)) hS ?_
              clear ha; intro a ha
              refine hd_val (i := 3) (.pointer (some (ade.add (k * 2 + 0 * 1)))) ha rfl (by kernel_rfl) (fun _ _ _ h => h) (by kernel_rfl) (fun w hS => (run_indexArr_at (kd := .i64) (i := k * 2) (z := 0) 0 rfl Try.underlying37 Try.sizeOf3 (by kernel_rfl) (by kernel_rfl) rfl (by first | assumption | omega) _)) hS ?_
              clear ha; intro a ha
              refine hd_val (i := 4) (.int .i64 v.1) ha rfl (by kernel_rfl) (fun _ _ _ h => h) (by kernel_rfl) (fun w hS => run_loadAt1 (i := k * 2 + 0 * 1) hS.1 rfl (by kernel_rfl) Try.isAgg3 (by rw [Nat.mul_one]; rw [egs_at hv (by omega)]; rfl)) hS ?_
              clear ha; intro a ha
              refine hd_val (i := 5) (.slice (some adq) Q.length co) ha rfl (by kernel_rfl) (fun _ _ _ h => h) (by kernel_rfl) (fun w hS => (by kernel_rfl)) hS ?_
              clear ha; intro a ha
              refine hd_val (i := 6) (.int .i64 ((q : Nat) : Int)) ha rfl (by kernel_rfl) (fun _ _ _ h => h) (by kernel_rfl) (fun w hS => (by kernel_rfl)) hS ?_
              clear ha; intro a ha
              refine hd_val (i := 7) (.pointer (some (adq.add (q * 1)))) ha rfl (by kernel_rfl) (fun _ _ _ h => h) (by kernel_rfl) (fun w hS => (run_indexAddr' (kd := .i64) (i := ((q : Nat) : Int)) (n := Q.length) (c := co) q rfl Try.underlying25 Try.sizeOf3 (by kernel_rfl) (by kernel_rfl) rfl (by first | assumption | omega) _)) hS ?_
              clear ha; intro a ha
              refine hd_val (i := 8) (.int .i64 x) ha rfl (by kernel_rfl) (fun _ _ _ h => h) (by kernel_rfl) (fun w hS => run_loadAt1 (i := q * 1) hS.2.1 rfl (by kernel_rfl) Try.isAgg3 (by rw [Nat.mul_one]; exact ints_at hx)) hS ?_
              clear ha; intro a ha
              refine hd_val (i := 9) (.bool (v.1 == x)) ha rfl (by kernel_rfl) (fun _ _ _ h => h) (by kernel_rfl) (fun w hS => (by kernel_rfl)) hS ?_
              clear ha; intro a ha
              refine hd_val (i := 10) (.bool (v.1 == x)) ha rfl (by kernel_rfl) (fun _ _ _ h => h) (by kernel_rfl) (fun w hS => (by kernel_rfl)) hS ?_
              clear ha; intro a ha
              rcases Bool.eq_false_or_eq_true (v.1 == x) with hb | hb
              · rw [hb] at ha; have hb_ := hb; replace hb := eq_of_beq hb
                have hva := hb
                refine hd_val (i := 11) (.slice (some adq) Q.length co) ha rfl (by kernel_rfl) (fun _ _ _ h => h) (by kernel_rfl) (fun w hS => (by kernel_rfl)) hS ?_
                clear ha; intro a ha
                refine hd_val (i := 12) (.slice (some ade) n ca) ha rfl (by kernel_rfl) (fun _ _ _ h => h) (by kernel_rfl) (fun w hS => (by kernel_rfl)) hS ?_
                clear ha; intro a ha
                refine hd_val (i := 13) (.int .i64 ((k : Nat) : Int)) ha rfl (by kernel_rfl) (fun _ _ _ h => h) (by kernel_rfl) (fun w hS => (by kernel_rfl)) hS ?_
                clear ha; intro a ha
                refine hd_val (i := 14) (.pointer (some (ade.add (k * 2)))) ha rfl (by kernel_rfl) (fun _ _ _ h => h) (by kernel_rfl) (fun w hS => (run_indexAddr' (kd := .i64) (i := ((k : Nat) : Int)) (n := n) (c := ca) k rfl Try.underlying22 Try.sizeOf37 (by kernel_rfl) (by kernel_rfl) rfl (by first | assumption | omega) _)) hS ?_
                clear ha; intro a ha
                refine hd_val (i := 15) (.pointer (some (ade.add (k * 2 + 1 * 1)))) ha rfl (by kernel_rfl) (fun _ _ _ h => h) (by kernel_rfl) (fun w hS => (run_indexArr_at (kd := .i64) (i := k * 2) (z := 1) 1 rfl Try.underlying37 Try.sizeOf3 (by kernel_rfl) (by kernel_rfl) rfl (by first | assumption | omega) _)) hS ?_
                clear ha; intro a ha
                refine hd_val (i := 16) (.int .i64 v.2) ha rfl (by kernel_rfl) (fun _ _ _ h => h) (by kernel_rfl) (fun w hS => run_loadAt1 (i := k * 2 + 1 * 1) hS.1 rfl (by kernel_rfl) Try.isAgg3 (by rw [Nat.mul_one]; rw [egs_at hv (by omega)]; rfl)) hS ?_
                clear ha; intro a ha
                refine Head.done (by kernel_rfl) ?_
                clear hS; simp only [List.drop_succ_cons, List.drop_zero]
                refine st_call ha (by kernel_rfl) (by kernel_rfl) (has29_any W _ w (some adq) Q.length co Q (Knows.own (j := 0) rfl) rfl (by omega) v.2 s) ?_
                rintro _ w ⟨rfl, s⟩
                replace s : St W (Own 3 1 (some adq) Q.length co (ints Q) :: L) w := s
                refine ⟨_, rfl, ?_⟩; clear ha; intro a ha
                refine st_val (.bool (!(decide (v.2 ∈ Q)))) ha (by kernel_rfl) (by kernel_rfl) ?_
                clear ha; intro a ha
                refine st_val (.bool (!(decide (v.2 ∈ Q)))) ha (by kernel_rfl) (by kernel_rfl) ?_
                clear ha; intro a ha
                refine wpList_nil ?_
                refine then_normal ?_
                refine wp_part (!(decide (v.2 ∈ Q))) ha rfl (by kernel_rfl) (fun hb => ?_) (fun hb => ?_)
                · rw [hb] at ha; skip
                  have hnq : v.2 ∉ Q := by simpa using hb
                  refine wp_region_lit ?_
                  refine st_val (.slice (some adq) Q.length co) ha (by kernel_rfl) (by kernel_rfl) ?_
                  clear ha; intro a ha
                  refine st_val (.slice (some ade) n ca) ha (by kernel_rfl) (by kernel_rfl) ?_
                  clear ha; intro a ha
                  refine st_val (.int .i64 ((k : Nat) : Int)) ha (by kernel_rfl) (by kernel_rfl) ?_
                  clear ha; intro a ha
                  refine st_val (.pointer (some (ade.add (k * 2)))) ha (by kernel_rfl) (run_indexAddr' (kd := .i64) (i := ((k : Nat) : Int)) (n := n) (c := ca) k rfl Try.underlying22 Try.sizeOf37 (by kernel_rfl) (by kernel_rfl) rfl (by first | assumption | omega) _) ?_
                  clear ha; intro a ha
                  refine st_val (.pointer (some (ade.add (k * 2 + 1 * 1)))) ha (by kernel_rfl) (run_indexArr_at (kd := .i64) (i := k * 2) (z := 1) 1 rfl Try.underlying37 Try.sizeOf3 (by kernel_rfl) (by kernel_rfl) rfl (by first | assumption | omega) _) ?_
                  clear ha; intro a ha
                  refine st_val (.int .i64 v.2) ha (by kernel_rfl) (run_loadAt1 (i := k * 2 + 1 * 1) ((hr _ s.sat.tail)) rfl (by kernel_rfl) Try.isAgg3 (by rw [Nat.mul_one]; rw [egs_at hv (by omega)]; rfl)) ?_
                  clear ha; intro a ha
                  refine st_ex ha (by kernel_rfl) (ex_buildSlice elt25 _ zs25 [.int .i64 v.2] s rfl (by kernel_rfl) (by decide)) ?_
                  clear ha; rintro _ w a ⟨g4, rfl, s⟩ ha
                  replace s : St W (.blk g4 [.int .i64 v.2] 3 :: Own 3 1 (some adq) Q.length co (ints Q) :: L) w := s
                  refine st_ex ha (by kernel_rfl) (ex_append (m := 1) (d' := 1) elt25 (by decide) 1 [.int .i64 v.2] s rfl (by kernel_rfl) (by kernel_rfl) rfl (reads_blk (s.blkIs 0 rfl) rfl) (by simp [Value.oneCell']) (by simp only [maxLen]; omega) (by omega)) ?_
                  clear ha; rintro _ w a ⟨A5, c6, rfl, hA_, s⟩ ha
                  replace s : St W (.blk g4 [.int .i64 v.2] 3 :: Own 3 1 A5 (Q.length + 1) c6 ((ints Q) ++ [.int .i64 v.2]) :: L) w := s
                  refine st_val (.slice A5 (Q.length + 1) c6) ha (by kernel_rfl) (by kernel_rfl) ?_
                  clear ha; intro a ha
                  refine wpList_nil ?_
                  refine block_normal ?_
                  refine then_normal ?_
                  refine wp_region_lit ?_
                  refine st_val (.int .i64 ((k : Nat) : Int)) ha (by kernel_rfl) (by kernel_rfl) ?_
                  clear ha; intro a ha
                  refine st_val (.int .i64 ((k + 1 : Nat) : Int)) ha (by kernel_rfl) (run_arith (((k : Nat) : Int) + (1 : Int)) ((k + 1 : Nat) : Int) rfl (by kernel_rfl) (by kernel_rfl) (.inl ⟨rfl, rfl⟩) (by rw [wrap64_in (by omega)]; try omega) _) ?_
                  clear ha; intro a ha
                  refine st_val (.int .i64 ((k + 1 : Nat) : Int)) ha (by kernel_rfl) (by kernel_rfl) ?_
                  clear ha; intro a ha
                  refine wpList_nil ?_
                  refine then_normal ?_
                  replace s := s.at_ (j := 1) rfl
                  replace s : St W (Own 3 1 A5 (Q.length + 1) c6 ((ints Q) ++ [.int .i64 v.2]) :: .blk g4 [.int .i64 v.2] 3 :: L) w := s
                  replace s : St W (Own 3 1 A5 (Q.length + 1) c6 ((ints Q) ++ [.int .i64 v.2]) :: L) w := St.mid (A := [Own 3 1 A5 (Q.length + 1) c6 ((ints Q) ++ [.int .i64 v.2])]) (B := [.blk g4 [.int .i64 v.2] 3]) s
                  replace s : St W (Own 3 1 A5 ((Q ++ [v.2]).length) c6 (ints (Q ++ [v.2])) :: L) w := by rw [show (Q ++ [v.2]).length = Q.length + 1 by simp, ints, List.map_append]; exact s
                  exact ⟨(k + 1, (Q ++ [v.2]), A5, c6), (show n - (k + 1) < n - k by omega), (Has.cons ha (by kernel_rfl) (by kernel_rfl) (Has.cons ha (by kernel_rfl) (by rw [show (Q ++ [v.2]).length = Q.length + 1 by simp]; kernel_rfl) (Has.cons ha (by kernel_rfl) (by kernel_rfl) (Has.cons ha (by kernel_rfl) (by kernel_rfl) (Has.nil ha))))), s, by omega, (by simp; omega), hp.2.2.more hv hx hva hnq⟩
                · rw [hb] at ha; skip
                  have hq : v.2 ∈ Q := by simpa using hb
                  refine wp_skip ?_
                  refine block_normal ?_
                  refine then_normal ?_
                  refine wp_region_lit ?_
                  refine st_val (.int .i64 ((k : Nat) : Int)) ha (by kernel_rfl) (by kernel_rfl) ?_
                  clear ha; intro a ha
                  refine st_val (.int .i64 ((k + 1 : Nat) : Int)) ha (by kernel_rfl) (run_arith (((k : Nat) : Int) + (1 : Int)) ((k + 1 : Nat) : Int) rfl (by kernel_rfl) (by kernel_rfl) (.inl ⟨rfl, rfl⟩) (by rw [wrap64_in (by omega)]; try omega) _) ?_
                  clear ha; intro a ha
                  refine st_val (.int .i64 ((k + 1 : Nat) : Int)) ha (by kernel_rfl) (by kernel_rfl) ?_
                  clear ha; intro a ha
                  refine wpList_nil ?_
                  refine then_normal ?_
                  exact ⟨(k + 1, Q, (some adq), co), (show n - (k + 1) < n - k by omega), (Has.cons ha (by kernel_rfl) (by kernel_rfl) (Has.cons ha (by kernel_rfl) (by kernel_rfl) (Has.cons ha (by kernel_rfl) (by kernel_rfl) (Has.cons ha (by kernel_rfl) (by kernel_rfl) (Has.nil ha))))), s, by omega, hp.2.1, hp.2.2.pass hv (by intro z hz hvz; rw [hx] at hz; cases hz; first | exact absurd hvz hb | exact hq)⟩
              · rw [hb] at ha; have hb_ := hb; replace hb := ne_of_beq_false hb
                refine hd_pass (i := 11) ha rfl (by kernel_rfl) (fun _ _ _ h => h) (by kernel_rfl) hS ?_
                clear ha; intro a ha
                refine hd_pass (i := 12) ha rfl (by kernel_rfl) (fun _ _ _ h => h) (by kernel_rfl) hS ?_
                clear ha; intro a ha
                refine hd_pass (i := 13) ha rfl (by kernel_rfl) (fun _ _ _ h => h) (by kernel_rfl) hS ?_
                clear ha; intro a ha
                refine hd_pass (i := 14) ha rfl (by kernel_rfl) (fun _ _ _ h => h) (by kernel_rfl) hS ?_
                clear ha; intro a ha
                refine hd_pass (i := 15) ha rfl (by kernel_rfl) (fun _ _ _ h => h) (by kernel_rfl) hS ?_
                clear ha; intro a ha
                refine hd_pass (i := 16) ha rfl (by kernel_rfl) (fun _ _ _ h => h) (by kernel_rfl) hS ?_
                clear ha; intro a ha
                refine Head.done (by kernel_rfl) ?_
                clear hS; simp only [List.drop_succ_cons, List.drop_zero]
                refine st_pass ha (by kernel_rfl) ?_
                clear ha; intro a ha
                refine st_pass ha (by kernel_rfl) ?_
                clear ha; intro a ha
                refine st_val (.bool false) ha (by kernel_rfl) (by kernel_rfl) ?_
                clear ha; intro a ha
                refine wpList_nil ?_
                refine then_normal ?_
                refine wp_false ha rfl (by kernel_rfl) ?_
                refine wp_skip ?_
                refine block_normal ?_
                refine then_normal ?_
                refine wp_region_lit ?_
                refine st_val (.int .i64 ((k : Nat) : Int)) ha (by kernel_rfl) (by kernel_rfl) ?_
                clear ha; intro a ha
                refine st_val (.int .i64 ((k + 1 : Nat) : Int)) ha (by kernel_rfl) (run_arith (((k : Nat) : Int) + (1 : Int)) ((k + 1 : Nat) : Int) rfl (by kernel_rfl) (by kernel_rfl) (.inl ⟨rfl, rfl⟩) (by rw [wrap64_in (by omega)]; try omega) _) ?_
                clear ha; intro a ha
                refine st_val (.int .i64 ((k + 1 : Nat) : Int)) ha (by kernel_rfl) (by kernel_rfl) ?_
                clear ha; intro a ha
                refine wpList_nil ?_
                refine then_normal ?_
                exact ⟨(k + 1, Q, (some adq), co), (show n - (k + 1) < n - k by omega), (Has.cons ha (by kernel_rfl) (by kernel_rfl) (Has.cons ha (by kernel_rfl) (by kernel_rfl) (Has.cons ha (by kernel_rfl) (by kernel_rfl) (Has.cons ha (by kernel_rfl) (by kernel_rfl) (Has.nil ha))))), s, by omega, hp.2.1, hp.2.2.pass hv (by intro z hz hvz; rw [hx] at hz; cases hz; first | exact absurd hvz hb | exact hq)⟩
            · rw [hb] at ha; replace hb : ¬ (((k : Nat) : Int) < ((n : Nat) : Int)) := of_decide_eq_false hb
              have hpq := hp.2.2
              have hnx := hp.2.2.next (by omega)
              have hQl := hp.2.2.len
              refine wp_exit ?_
              refine then_exit ?_
              refine then_exit ?_
              refine block_hit ?_
              refine block_normal ?_
              refine then_normal ?_
              refine wp_region_lit ?_
              refine st_val (.int .i64 ((q : Nat) : Int)) ha (by kernel_rfl) (by kernel_rfl) ?_
              clear ha; intro a ha
              refine st_val (.int .i64 ((q + 1 : Nat) : Int)) ha (by kernel_rfl) (run_arith (((q : Nat) : Int) + (1 : Int)) ((q + 1 : Nat) : Int) rfl (by kernel_rfl) (by kernel_rfl) (.inl ⟨rfl, rfl⟩) (by rw [wrap64_in (by omega)]; try omega) _) ?_
              clear ha; intro a ha
              refine st_val (.int .i64 ((q + 1 : Nat) : Int)) ha (by kernel_rfl) (by kernel_rfl) ?_
              clear ha; intro a ha
              refine wpList_nil ?_
              refine then_normal ?_
              exact ⟨(q + 1, Q, Ao, co), (show n - (q + 1) < n - q by have := hpq.len; omega), (Has.cons ha (by kernel_rfl) (by kernel_rfl) (Has.cons ha (by kernel_rfl) (by kernel_rfl) (Has.cons ha (by kernel_rfl) (by kernel_rfl) (Has.nil ha)))), s, hnx⟩
        · rw [hb] at ha; replace hb : ¬ (((q : Nat) : Int) < ((Q.length : Nat) : Int)) := of_decide_eq_false hb
          refine wp_exit ?_
          refine then_exit ?_
          refine then_exit ?_
          refine block_hit ?_
          refine then_normal ?_
          refine wp_seq ?_
          refine wp_region_lit ?_
          refine st_val (.slice Ao Q.length co) ha (by kernel_rfl) (by kernel_rfl) ?_
          clear ha; intro a ha
          refine st_val (.slice Ao Q.length co) ha (by kernel_rfl) (by kernel_rfl) ?_
          clear ha; intro a ha
          refine wpList_nil ?_
          refine then_normal ?_
          refine wp_ret ?_
          refine ret_with (v := .slice Ao Q.length co) ha (results_1 rfl ha (res_tmp (by kernel_rfl) (by kernel_rfl))) ?_
          exact ⟨_, _, Q, rfl, hp.all (by omega), by have := hp.len; omega, s⟩

end Go.Proofs.Ytjdkpebnaohonaa.B
