import Derived.Test.YtcnlidaacgcdhaaB0
import Derived.Test.YtcnlidaacgcdhaaLay
import Derived.Shelf.SlSortCmp.NoneTotal
namespace Go.Proofs.Ytcnlidaacgcdhaa.B
open Go.RowKit Go.Proofs.Ytcnlidaacgcdhaa.Sep Go.Proofs.Ytcnlidaacgcdhaa.P
set_option linter.unusedVariables false
set_option linter.unusedSimpArgs false

theorem evs_len (j : Nat) (l : List Span) : (evs j l).length = 2 * l.length := by
  induction l with
  | nil => rfl
  | cons s l ih =>
    have e1 : evs j (s :: l) = [⟨s.1, j, 1⟩, ⟨s.2, j, -1⟩] ++ evs j l := rfl
    rw [e1, List.length_append, ih]; simp; omega
theorem evs_take {j : Nat} {l : List Span} {k : Nat} {x : Span} (h : l[k]? = some x) : evs j (l.take (k + 1)) = evs j (l.take k) ++ [⟨x.1, j, 1⟩, ⟨x.2, j, -1⟩] := by
  obtain ⟨hk, rfl⟩ := List.getElem?_eq_some_iff.1 h
  unfold evs
  rw [List.take_succ_eq_append_getElem hk, List.flatMap_append]
  rfl
theorem evcs_append (l m : List Ev) : evcs (l ++ m) = evcs l ++ evcs m := by simp [evcs]
theorem sps_append (l m : List Span) : sps (l ++ m) = sps l ++ sps m := by simp [sps]
/-- The spans that are open. -/
def fl (f : Option K) : List Span := (f.map fun x => ((x, []) : Span)).toList
theorem drop_at {d : List Ev} {k : Nat} {e : Ev} (h : d[k]? = some e) : d.drop k = e :: d.drop (k + 1) := by
  obtain ⟨hk, rfl⟩ := List.getElem?_eq_some_iff.1 h
  exact List.drop_eq_getElem_cons hk
theorem prt_take {d : List Ev} {k : Nat} {e : Ev} (h : d[k]? = some e) (j : Nat) : prt j (d.take (k + 1)) = prt j (d.take k) + (if e.j = j then e.d else 0) := by
  obtain ⟨hk, rfl⟩ := List.getElem?_eq_some_iff.1 h
  rw [List.take_succ_eq_append_getElem hk, prt_one]
theorem prt_small {l : List Ev} (h : ∀ e ∈ l, e.d = 1 ∨ e.d = -1) (j : Nat) : -(l.length : Int) ≤ prt j l ∧ prt j l ≤ l.length := by
  induction l with
  | nil => simp [prt]
  | cons a l ih =>
    have h1 := h a (by simp)
    have h2 := ih fun e he => h e (by simp [he])
    simp only [prt, List.map_cons, List.sum_cons, List.length_cons] at *
    split <;> omega
theorem arr0 {d : List Ev} {k : Nat} {e : Ev} (h : d[k]? = some e) (hj : e.j = 0) : putAt [.int .i64 (prt 0 (d.take k)), .int .i64 (prt 1 (d.take k))] 0 [.int .i64 (prt 0 (d.take k) + e.d)] = [.int .i64 (prt 0 (d.take (k + 1))), .int .i64 (prt 1 (d.take (k + 1)))] := by
  rw [prt_take h 0, prt_take h 1, hj]; simp [putAt]
theorem arr1 {d : List Ev} {k : Nat} {e : Ev} (h : d[k]? = some e) (hj : e.j = 1) : putAt [.int .i64 (prt 0 (d.take k)), .int .i64 (prt 1 (d.take k))] 1 [.int .i64 (prt 1 (d.take k) + e.d)] = [.int .i64 (prt 0 (d.take (k + 1))), .int .i64 (prt 1 (d.take (k + 1)))] := by
  rw [prt_take h 0, prt_take h 1, hj]; simp [putAt]
theorem arrj {d : List Ev} {k : Nat} {e : Ev} (h : d[k]? = some e) (hj : e.j = 0 ∨ e.j = 1) : putAt [.int .i64 (prt 0 (d.take k)), .int .i64 (prt 1 (d.take k))] e.j [.int .i64 (prt e.j (d.take k) + e.d)] = [.int .i64 (prt 0 (d.take (k + 1))), .int .i64 (prt 1 (d.take (k + 1)))] := by
  rcases hj with hj | hj
  · have := arr0 h hj; rw [hj]; exact this
  · have := arr1 h hj; rw [hj]; exact this
theorem ends_small {a b cl : List Span} {d : List Ev} {f : Option K} (hp : d.Perm (evs 0 a ++ evs 1 b)) (ha : ∀ s ∈ a, chk s = 0) (hb : ∀ s ∈ b, chk s = 0) (h : (∀ s ∈ cl, (∃ e ∈ d, e.key = s.1) ∧ ∃ e ∈ d, e.key = s.2) ∧ ∀ x, f = some x → ∃ e ∈ d, e.key = x) : ∀ s ∈ cl, s.1.length ≤ 33 ∧ s.2.length ≤ 33 := by
  have key : ∀ e ∈ d, e.key.length ≤ 33 := by
    intro e he
    rcases List.mem_append.1 (hp.mem_iff.1 he) with h | h
    · obtain ⟨s, hs, hk⟩ := evs_key h
      have := chk_ok (ha s hs)
      rcases hk with hk | hk <;> rw [hk] <;> omega
    · obtain ⟨s, hs, hk⟩ := evs_key h
      have := chk_ok (hb s hs)
      rcases hk with hk | hk <;> rw [hk] <;> omega
  intro s hs
  obtain ⟨⟨e1, h1, k1⟩, e2, h2, k2⟩ := h.1 s hs
  rw [← k1, ← k2]
  exact ⟨key e1 h1, key e2 h2⟩
theorem sps_put (cl : List Span) (x y : K) : putAt (sps (cl ++ [(x, [])])) (cl.length * 2 + 1) [.string (str y)] = sps (cl ++ [(x, y)]) := by
  rw [sps_append, sps_append]
  show (sps cl ++ [_, _]).set _ _ = _
  rw [List.set_append_right _ _ (by rw [sps_len]; omega), sps_len, show cl.length * 2 + 1 - cl.length * 2 = 1 by omega]
  rfl
theorem swoK : Go.Sort.SWO (Go.Proofs.ltOf fun x y : Ev => cmpK x.key y.key) := by
  have h : ∀ x y : Ev, Go.Proofs.ltOf (fun x y : Ev => cmpK x.key y.key) x y = decide (x.key < y.key) := by
    intro x y
    unfold Go.Proofs.ltOf cmpK
    by_cases h1 : x.key < y.key
    · simp [h1]
    · by_cases h2 : y.key < x.key <;> simp [h1, h2]
  refine ⟨fun x => ?_, fun x y z h1 h2 => ?_, fun x y z h1 h2 => ?_⟩
  · rw [h]; simp
  · rw [h] at *; simp only [decide_eq_true_eq] at *; grind
  · rw [h] at *; simp only [decide_eq_false_iff_not] at *; grind
theorem ltK (x y : Ev) : Go.Proofs.ltOf (fun x y : Ev => cmpK x.key y.key) x y = decide (x.key < y.key) := by
  unfold Go.Proofs.ltOf cmpK
  by_cases h1 : x.key < y.key
  · simp [h1]
  · by_cases h2 : y.key < x.key <;> simp [h1, h2]
instance : Inhabited Ev := ⟨⟨[], 0, 0⟩⟩
theorem sort_events (W : World) (L : List Chunk) (w : World) (A : Option Addr) (n c c0 : Nat) (d : List Ev) (hn : n = d.length) (hsz : n ≤ 1000000) (s : St W (Own 66 3 A n c (evcs d) :: L) w) :
    Calls Try.prog 35 #[.slice A n c0, .func (.func 36) #[] #[]] w fun e w' => e = .returned (.tuple #[]) ∧ ∃ d' : List Ev, d'.Perm d ∧ Sorted d' ∧ d'.length = n ∧ St W (Own 66 3 A n c (evcs d') :: L) w' := by
  by_cases hne : d = []
  · subst hne
    have : n = 0 := hn
    subst this
    refine (Go.Proofs.AnyF.slices_SortFunc_none Try.sortEnd A c0 _ w).mono ?_
    rintro e w' ⟨rfl, rfl⟩
    exact ⟨rfl, [], List.Perm.nil, List.Pairwise.nil, rfl, s⟩
  · have eg : ∀ args w, (callFunc 36 args).run Try.prog w = .ok (.enter 36 args) w := enters_of Try.func36 (by kernel_rfl) rfl
    have con := sort_own Try.sortEnd (e := 66) (k := 3) (by omega) Try.isAgg66 Try.sizeOf66 evc (fun _ => rfl) (fun x v hv => by simp [evc] at hv; rcases hv with rfl | rfl | rfl <;> rfl) (fun x y : Ev => cmpK x.key y.key) swoK 36 eg
      (fun V x y => cmpEv_any V [Old V] V x y (Old.start V)) (cap := c0) hn hne (by omega) s
    refine con.mono ?_
    rintro e w' ⟨rfl, d', hp, hs, hl, s⟩
    refine ⟨rfl, d', hp, ?_, by omega, s⟩
    refine hs.imp ?_
    intro x y h
    rw [ltK] at h
    simp only [decide_eq_false_iff_not] at h
    grind
/-- The keys that are wanted, by the events. -/
theorem opn_all {a b : List Span} {d : List Ev} (hp : d.Perm (evs 0 a ++ evs 1 b)) (ha : ∀ s ∈ a, s.1 < s.2) (hb : ∀ s ∈ b, s.1 < s.2) (k : K) : opn 0 d k = cnt a k ∧ opn 1 d k = cnt b k := by
  rw [opn_perm hp, opn_perm hp, opn_append, opn_append, opn_evs ha, opn_evs hb, opn_other _ (by omega), opn_other _ (by omega)]
  omega
theorem start_low {d : List Ev} {wn : Int → Int → Bool} (hs : Sorted d) (h0 : wn 0 0 = false) (k : K) (hk : low k d) : wn (opn 0 d k) (opn 1 d k) = false := by
  have h : ∀ e ∈ d, k < e.key := by
    cases d with
    | nil => simp
    | cons a r =>
      intro e he
      simp only [low] at hk
      rcases List.mem_cons.1 he with rfl | he
      · exact hk
      · have := (List.pairwise_cons.1 hs).1 e he; grind
  rw [opn_low h, opn_low h, h0]
theorem end_low {a b : List Span} {d : List Ev} {wn : Int → Int → Bool} (hs : Sorted d) (hp : d.Perm (evs 0 a ++ evs 1 b)) (ha : ∀ s ∈ a, s.1 < s.2) (hb : ∀ s ∈ b, s.1 < s.2) (h0 : wn 0 0 = false) (x : K) (hx : ∃ e ∈ d, e.key = x) : ∃ k, x ≤ k ∧ wn (opn 0 d k) (opn 1 d k) = false := by
  obtain ⟨e, he, rfl⟩ := hx
  have hne : d ≠ [] := List.ne_nil_of_mem he
  have hlast : ∀ y ∈ d, y.key ≤ (d.getLast hne).key := by
    intro y hy
    have e1 := List.dropLast_concat_getLast hne
    rw [← e1] at hs hy
    rcases List.mem_append.1 hy with hy | hy
    · exact (List.pairwise_append.1 hs).2.2 y hy _ (by simp)
    · have : y = d.getLast hne := by simpa using hy
      rw [this]; grind
  refine ⟨(d.getLast hne).key, hlast e he, ?_⟩
  have hz : ∀ (l : List Span) (j : Nat), (∀ y ∈ evs j l, y ∈ d) → cnt l (d.getLast hne).key = 0 := by
    intro l j h
    refine List.countP_eq_zero.2 fun s hs hh => ?_
    have h2 := has_iff.1 hh
    have := hlast ⟨s.2, j, -1⟩ (h _ (List.mem_flatMap.2 ⟨s, hs, by simp⟩))
    simp only at this
    grind
  obtain ⟨q1, q2⟩ := opn_all hp ha hb (d.getLast hne).key
  rw [q1, q2, hz a 0 fun y hy => hp.mem_iff.2 (List.mem_append.2 (.inl hy)), hz b 1 fun y hy => hp.mem_iff.2 (List.mem_append.2 (.inr hy))]
  exact h0
theorem not_same_nil (e : Ev) : ¬ same e [] := fun h => h
theorem same_next {d : List Ev} {k : Nat} {e e2 : Ev} (h : d[k]? = some e2) : same e (d.drop k) ↔ e2.key = e.key := by
  rw [drop_at h]; rfl
theorem take_at {d : List Ev} {k : Nat} {e : Ev} (h : d[k]? = some e) : d = d.take k ++ e :: d.drop (k + 1) := by
  rw [← drop_at h, List.take_append_drop]
theorem take_snoc {d : List Ev} {k : Nat} {e : Ev} (h : d[k]? = some e) : d.take k ++ [e] = d.take (k + 1) := by
  obtain ⟨hk, rfl⟩ := List.getElem?_eq_some_iff.1 h
  rw [List.take_succ_eq_append_getElem hk]

end Go.Proofs.Ytcnlidaacgcdhaa.B
