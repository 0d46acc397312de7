import Derived.Test.YtidfniglnmfphaaB15
import Derived.Test.YtidfniglnmfphaaP1
namespace Go.Proofs.Ytidfniglnmfphaa.B
open Go.RowKit Go.Maps Go.Sort Go.Shelf Go.Proofs.Ytidfniglnmfphaa.Sep Go.Proofs.Ytidfniglnmfphaa.P
set_option linter.unusedVariables false
set_option linter.unusedSimpArgs false
/-- The inner rows of a list, but for one. -/
def Rest (e2 : Nat) (ds : List Dn) (i : Nat) : Chunk := star ((ds.map fun d => Own e2 7 d.A d.l.length d.c (dvs d.l)).eraseIdx i)
theorem Inn.open_ {W w : World} {L : List Chunk} {e2 i : Nat} {ds : List Dn} {d : Dn} (hd : ds[i]? = some d) (s : St W (Inn e2 ds :: L) w) : St W (Own e2 7 d.A d.l.length d.c (dvs d.l) :: Rest e2 ds i :: L) w := by
  have s1 := Sat.star_iff.1 s.1
  have h : (ds.map fun d => Own e2 7 d.A d.l.length d.c (dvs d.l))[i]? = some (Own e2 7 d.A d.l.length d.c (dvs d.l)) := by rw [List.getElem?_map, hd]; rfl
  have s2 : St W (Own e2 7 d.A d.l.length d.c (dvs d.l) :: ((ds.map fun d => Own e2 7 d.A d.l.length d.c (dvs d.l)).eraseIdx i ++ L)) w := by
    refine St.perm ⟨s1, s.2⟩ ?_
    exact (perm_at h).append_right L
  have s3 : St W ((ds.map fun d => Own e2 7 d.A d.l.length d.c (dvs d.l)).eraseIdx i ++ (Own e2 7 d.A d.l.length d.c (dvs d.l) :: L)) w := s2.perm List.perm_middle.symm
  exact (show St W (Rest e2 ds i :: Own e2 7 d.A d.l.length d.c (dvs d.l) :: L) w from ⟨Sat.star_iff.2 s3.1, s3.2⟩).perm (List.Perm.swap _ _ _)
theorem Inn.close {W w : World} {L : List Chunk} {e2 i : Nat} {ds : List Dn} {d : Dn} (hd : ds[i]? = some d) (l : List Dd) (s : St W (Own e2 7 d.A l.length d.c (dvs l) :: Rest e2 ds i :: L) w) : St W (Inn e2 (ds.set i { d with l := l }) :: L) w := by
  have s1 : St W (Rest e2 ds i :: Own e2 7 d.A l.length d.c (dvs l) :: L) w := s.perm (List.Perm.swap _ _ _)
  have s2 := Sat.star_iff.1 s1.1
  refine ⟨Sat.star_iff.2 ?_, s.2⟩
  rw [List.map_set]
  have h : (ds.map fun d => Own e2 7 d.A d.l.length d.c (dvs d.l))[i]? = some (Own e2 7 d.A d.l.length d.c (dvs d.l)) := by rw [List.getElem?_map, hd]; rfl
  refine Sat.perm s2 ?_
  refine List.perm_middle.trans ?_
  exact (perm_set h (Own e2 7 d.A l.length d.c (dvs l))).append_right L
theorem nvs_set {ds : List Dn} {i : Nat} {d : Dn} (hd : ds[i]? = some d) {l : List Dd} (hl : l.length = d.l.length) : nvs (ds.set i { d with l := l }) = nvs ds := by
  obtain ⟨hi, e⟩ := List.getElem?_eq_some_iff.1 hd
  unfold nvs
  rw [List.flatMap_def, List.flatMap_def, List.map_set]
  congr 1
  apply List.ext_getElem?
  intro k
  rw [List.getElem?_set]
  split
  · rename_i h; subst h
    simp [hi, e, nv, hl]
  · rfl
/-- Rows of answers that were made anew. -/
def RowsP (X : List Dd) (w : World) : Prop := ∀ x ∈ X, Reads w 2 x.A x.t.rows.length (rws x.t.rows)
theorem RowsP.nil {w : World} : RowsP [] w := fun x hx => by cases hx
def RowsOk (ds : List Dn) (X : List Dd) (x : Dd) : Prop := (∃ d ∈ ds, ∃ y ∈ d.l, x.A = y.A ∧ x.t.rows = y.t.rows ∧ x.c = y.c) ∨ (x ∈ X ∧ x.t.rows.length ≤ 140737488351232 ∧ x.t.rows.length ≤ x.c)
theorem RowsOk.mono {ds : List Dn} {X Y : List Dd} {x : Dd} (h : RowsOk ds X x) (hs : ∀ y ∈ X, y ∈ Y) : RowsOk ds Y x := h.imp id fun h => ⟨hs x h.1, h.2⟩
theorem RowsOk.reads {ds : List Dn} {X : List Dd} {x : Dd} {A : Option Addr} {w : World} (h : RowsOk ds X x) (h1 : DonesIn A ds w) (h2 : RowsP X w) : Reads w 2 x.A x.t.rows.length (rws x.t.rows) := by
  rcases h with ⟨d, hd, y, hy, e1, e2, _⟩ | h
  · rw [e1, e2]; exact (h1.2 d hd).2 y hy
  · exact h2 x h.1
theorem RowsP.snoc {W w : World} {L : List Chunk} {X : List Dd} (x : Dd) (s : St W (Own 54 2 x.A x.t.rows.length x.c (rws x.t.rows) :: Kn (RowsP X) :: L) w) : St W (Kn (RowsP (X ++ [x])) :: L) w := by
  refine kn_of (M := [Own 54 2 x.A x.t.rows.length x.c (rws x.t.rows), Kn (RowsP X)]) (fun w s y hy => ?_) s
  rcases List.mem_append.1 hy with hy | hy
  · exact (Knows.kn (j := 1) rfl) w s y hy
  · rw [List.mem_singleton.1 hy]; exact Own.reads s
/-- A list on its way to be right: those up to k are. -/
structure Prog (ds : List Dn) (o : List Nat) (k : Nat) (es : List Dn) : Prop where
  len : es.length = ds.length
  done : ∀ q i, o[q]? = some i → q < k → tAt (tns es) i = { tAt (tns ds) i with l := rightL (left [] (things (tns ds) (o.take q))) (tAt (tns ds) i).l }
  todo : ∀ q i, o[q]? = some i → k ≤ q → (es[i]?).map core = (ds[i]?).map core
theorem Prog.start {ds es : List Dn} {o : List Nat} (h : Copy ds es) : Prog ds o 0 es := ⟨h.length, fun q i _ h => by omega, fun q i _ _ => by
  have := congrArg (fun l => l[i]?) h
  simpa using this⟩
theorem Prog.right {ds es : List Dn} {o : List Nat} (h : Prog ds o o.length es) : IsRight (tns ds) o (tns es) := ⟨by simp [h.len], fun k i hi => h.done k i hi (List.getElem?_eq_some_iff.1 hi).1⟩
theorem Prog.step {ds es : List Dn} {o : List Nat} {k i : Nat} {d e : Dn} {m : List Dd} (h : Prog ds o k es) (ho : IsOrd (tns ds) o) (hi : o[k]? = some i) (hd : ds[i]? = some d) (he : es[i]? = some e) (hc : core e = core d) (hm : m.map (·.t) = rightL (left [] (things (tns ds) (o.take k))) (d.l.map (·.t))) : Prog ds o (k + 1) (es.set i { e with l := m }) := by
  have hil : i < es.length := (List.getElem?_eq_some_iff.1 he).1
  have hnd : o.Nodup := ho.1.nodup_iff.2 List.nodup_range
  have hne : ∀ q j, o[q]? = some j → q ≠ k → j ≠ i := by
    intro q j hq hqk e2
    subst e2
    obtain ⟨h1, h2⟩ := List.getElem?_eq_some_iff.1 hi
    obtain ⟨h3, h4⟩ := List.getElem?_eq_some_iff.1 hq
    exact hqk ((List.getElem_inj hnd).1 (h4.trans h2.symm))
  refine ⟨by rw [List.length_set]; exact h.len, fun q j hq hqk => ?_, fun q j hq hqk => ?_⟩
  · by_cases e2 : q = k
    · subst e2
      obtain rfl : i = j := by rw [hi] at hq; exact Option.some.inj hq
      have e3 : tAt (tns (es.set i { e with l := m })) i = ({ e with l := m } : Dn).t := tAt_of (by rw [List.getElem?_set_self hil])
      rw [e3, tAt_of hd]
      simp only [core, Prod.mk.injEq] at hc
      obtain ⟨c1, c2, c3, _⟩ := hc
      show (⟨e.id, e.wall, e.logic, m.map (·.t)⟩ : Tn) = ⟨d.id, d.wall, d.logic, _⟩
      rw [c1, c2, c3, hm]; rfl
    · have hj := hne q j hq e2
      rw [show tns (es.set i { e with l := m }) = (tns es).set i ({ e with l := m } : Dn).t from List.map_set, tAt_set_ne hj]
      exact h.done q j hq (by omega)
  · rw [List.getElem?_set_ne (Ne.symm (hne q j hq (by omega)))]
    exact h.todo q j hq (by omega)
theorem map_take_snoc {l : List Dd} {j : Nat} {x : Dd} (h : l[j]? = some x) : (l.take (j + 1)).map (·.t) = (l.take j).map (·.t) ++ [x.t] := by rw [take_snoc h]; simp
theorem leftU_snoc (R : List Rw) (l : List Td) (d : Td) : leftU R (l ++ [d]) = nextR (leftU R l) d := by simp [leftU]
theorem leftU_up {R : List Rw} (h : Up R) (l : List Td) : Up (leftU R l) := by
  induction l generalizing R with
  | nil => exact h
  | cons d l ih => exact ih (nextR_up h d)
theorem putAt_dvs {l : List Dd} {j : Nat} (hj : j < l.length) (x : Dd) : putAt (dvs l) (j * 7) (dv x) = dvs (l.set j x) := by
  have e : l = l.take j ++ (l[j] :: l.drop (j + 1)) := by rw [← List.drop_eq_getElem_cons hj, List.take_append_drop]
  have e2 : l.set j x = l.take j ++ (x :: l.drop (j + 1)) := by rw [List.set_eq_take_append_cons_drop, if_pos hj]
  have h1 : ∀ z, dvs (l.take j ++ (z :: l.drop (j + 1))) = dvs (l.take j) ++ dv z ++ dvs (l.drop (j + 1)) := fun z => by simp [dvs]
  have l1 : (dvs (l.take j)).length = j * 7 := by rw [dvs_len, List.length_take, Nat.min_eq_left (by omega)]
  rw [putAt_eq _ _ _ (by rw [dvs_len]; simp only [List.length_cons, List.length_nil]; omega), e2, h1]
  have t1 : (dvs l).take (j * 7) = dvs (l.take j) := by conv => lhs; rw [e, h1]; rw [List.append_assoc, ← l1, List.take_left]
  have t2 : (dvs l).drop (j * 7 + 7) = dvs (l.drop (j + 1)) := by conv => lhs; rw [e, h1]; rw [show j * 7 + 7 = (dvs (l.take j) ++ dv l[j]).length by rw [List.length_append, l1]; rfl, List.drop_left]
  rw [t1]
  congr 1
abbrev tds (l : List Dd) : List Td := l.map (·.t)
theorem leftU_le (R : List Rw) (l : List Td) : (leftU R l).length ≤ R.length + l.length := by
  induction l generalizing R with
  | nil => simp [leftU]
  | cons d l ih =>
    have := ih (nextR R d)
    have := nextR_length R d
    simp only [leftU, List.foldl_cons, List.length_cons] at *
    omega
theorem left_take_le {ds : List Tn} {o : List Nat} (ho : IsOrd ds o) (k : Nat) : (left [] (things ds (o.take k))).length ≤ many ds := by
  have h1 := left_length [] (things ds (o.take k))
  have h2 : (things ds (o.take k)).length ≤ (things ds o).length := by
    conv => rhs; rw [← List.take_append_drop k o, things_append, List.length_append]
    omega
  rw [things_len ho] at h2
  simp only [List.length_nil] at h1
  omega
theorem left_next {ds : List Dn} {o : List Nat} {k i : Nat} {d : Dn} (hi : o[k]? = some i) (hd : ds[i]? = some d) : left [] (things (tns ds) (o.take (k + 1))) = leftU (left [] (things (tns ds) (o.take k))) (tds d.l) := by
  obtain ⟨hk, e⟩ := List.getElem?_eq_some_iff.1 hi
  rw [List.take_succ_eq_append_getElem hk, e, things_append, left_append, things_one, left_label, tAt_of hd]; rfl
theorem take_set_succ {α : Type} {l : List α} {j : Nat} (x : α) (hj : j < l.length) : (l.set j x).take (j + 1) = l.take j ++ [x] := by
  rw [List.set_eq_take_append_cons_drop, if_pos hj, List.take_append, List.take_take]
  simp [Nat.min_eq_left (show j ≤ l.length by omega)]
theorem drop_set_succ {α : Type} {l : List α} {j : Nat} (x : α) : (l.set j x).drop (j + 1) = l.drop (j + 1) := by
  rw [List.drop_set]; simp
theorem RowsOk.same {ds : List Dn} {X : List Dd} {x y : Dd} (h : RowsOk ds X x) (hm : ∃ d ∈ ds, x ∈ d.l) (h1 : y.A = x.A) (h2 : y.t.rows = x.t.rows) (h3 : y.c = x.c) : RowsOk ds X y := by
  obtain ⟨d, hd, hx⟩ := hm
  exact .inl ⟨d, hd, x, hx, h1, h2, h3⟩
theorem right_bn {ds es : List Dn} {o : List Nat} {X : List Dd} (hn : Bn ds) (ho : IsOrd (tns ds) o) (h : IsRight (tns ds) o (tns es)) (hR : ∀ e ∈ es, ∀ x ∈ e.l, RowsOk ds X x) : Bn es := by
  have hl : es.length = ds.length := by simpa using h.len
  refine ⟨by rw [hl]; exact hn.1, fun e he => ?_⟩
  obtain ⟨i, hi, e1⟩ := List.getElem_of_mem he
  have hi2 : i < ds.length := by omega
  have he2 : es[i]? = some e := by rw [List.getElem?_eq_getElem hi, e1]
  have hd2 : ds[i]? = some ds[i] := List.getElem?_eq_getElem hi2
  obtain ⟨R, f⟩ := h.each ho (show i < (tns ds).length by simpa using hi2)
  rw [tAt_of he2, tAt_of hd2] at f
  have fl : e.l.map (·.t) = rightL R (ds[i].l.map (·.t)) := congrArg Tn.l f
  have hdl := hn.row hd2
  refine ⟨?_, fun x hx => ⟨?_, ?_⟩⟩
  · have := congrArg List.length fl
    rw [rightL_len, List.length_map, List.length_map] at this
    rw [this]; exact hdl.1
  · rcases hR e he x hx with ⟨d, hd, y, hy, _, e3, _⟩ | h3
    · rw [e3]; exact ((hn.2 d hd).2 y hy).1
    · exact h3.2.1
  · have hm : x.t ∈ rightL R (ds[i].l.map (·.t)) := by rw [← fl]; exact List.mem_map.2 ⟨x, hx, rfl⟩
    obtain ⟨S, y, hy, e3⟩ := right_mem hm
    obtain ⟨z, hz, rfl⟩ := List.mem_map.1 hy
    rw [e3, rightD_key]
    exact (hdl.2 z hz).2
def Vb (n : Nat) (R : List Rw) : Prop := ∀ r ∈ R, r.val.length ≤ n
theorem nextR_vb {n : Nat} {R : List Rw} {d : Td} (h : Vb n R) (hd : d.val.length ≤ n) : Vb n (nextR R d) := by
  unfold nextR
  split
  · intro r hr
    rcases put_mem hr with rfl | hr
    · exact hd
    · exact h r hr
  · split
    · intro r hr; exact h r ((List.mem_filter.1 hr).1)
    · split
      · intro r hr; exact h r ((List.mem_filter.1 hr).1)
      · exact h
theorem left_vb {τ : Type} {n : Nat} {l : List (τ × Td)} (hl : ∀ x ∈ l, x.2.val.length ≤ n) : ∀ {R : List Rw}, Vb n R → Vb n (left R l) := by
  induction l with
  | nil => intro R h; exact h
  | cons x l ih => intro R h; exact ih (fun y hy => hl y (by simp [hy])) (nextR_vb h (hl x (by simp)))
theorem rightD_vb {n : Nat} {R : List Rw} {d : Td} (h : Vb n R) (hd : d.val.length ≤ n) : (rightD R d).val.length ≤ n := by
  unfold rightD
  split
  · show ((lookR R d.key).getD []).length ≤ n
    unfold lookR
    cases e : R.find? fun x => decide (x.key = d.key) with
    | none => exact Nat.zero_le _
    | some r => exact h r (List.mem_of_find?_eq_some e)
  · split
    · exact hd
    · exact hd
theorem rightL_vb {n : Nat} {l : List Td} (hl : ∀ x ∈ l, x.val.length ≤ n) : ∀ {R : List Rw}, Vb n R → ∀ x ∈ rightL R l, x.val.length ≤ n := by
  induction l with
  | nil => intro R _ x hx; cases hx
  | cons d l ih =>
    intro R h x hx
    rcases List.mem_cons.1 hx with rfl | hx
    · exact rightD_vb h (hl d (by simp))
    · exact ih (fun y hy => hl y (by simp [hy])) (nextR_vb h (hl d (by simp))) x hx
theorem things_vb {n : Nat} {ds : List Tn} (hV : ∀ t ∈ ds, ∀ x ∈ t.l, x.val.length ≤ n) {o : List Nat} (ho : ∀ i ∈ o, i < ds.length) : ∀ x ∈ things ds o, x.2.val.length ≤ n := by
  intro x hx
  obtain ⟨i, hi, hx⟩ := List.mem_flatMap.1 hx
  simp only [label, List.mem_map] at hx
  obtain ⟨y, hy, rfl⟩ := hx
  refine hV (tAt ds i) (by simp [tAt, List.getD_eq_getElem?_getD, ho i hi]) y.1 ?_
  obtain ⟨k, hk, e⟩ := List.getElem_of_mem hy
  rw [← e]; simp
theorem right_vals {n : Nat} {ds rs : List Tn} {o : List Nat} (hV : ∀ t ∈ ds, ∀ x ∈ t.l, x.val.length ≤ n) (ho : IsOrd ds o) (h : IsRight ds o rs) : ∀ t ∈ rs, ∀ x ∈ t.l, x.val.length ≤ n := by
  intro t ht x hx
  obtain ⟨i, hi, e⟩ := List.getElem_of_mem ht
  have hi2 : i < ds.length := by rw [← h.len]; exact hi
  have e1 : tAt rs i = t := by simp [tAt, List.getD_eq_getElem?_getD, hi, e]
  obtain ⟨k, hk, e2⟩ := List.getElem_of_mem (ho.1.mem_iff.2 (List.mem_range.2 hi2))
  have f := h.at_ k i (by rw [List.getElem?_eq_getElem hk, e2])
  rw [e1] at f
  rw [f] at hx
  refine rightL_vb (hV (tAt ds i) (by simp [tAt, List.getD_eq_getElem?_getD, hi2])) ?_ x hx
  exact left_vb (things_vb hV fun j hj => ho.lt (List.mem_of_mem_take hj)) (fun r hr => by cases hr)
theorem right_cb {ds es : List Dn} {o : List Nat} {X : List Dd} (ho : IsOrd (tns ds) o) (h : IsRight (tns ds) o (tns es)) (hc : Cb ds) (hR : ∀ e ∈ es, ∀ x ∈ e.l, RowsOk ds X x) : Cb es := fun e he x hx => by
  refine ⟨?_, ?_⟩
  · rcases hR e he x hx with ⟨d, hd, y, hy, _, e3, e4⟩ | h3
    · rw [e3, e4]; exact (hc d hd y hy).1
    · exact h3.2.2
  · refine right_vals (ds := tns ds) (fun t ht y hy => ?_) ho h e.t (List.mem_map.2 ⟨e, he, rfl⟩) x.t (List.mem_map.2 ⟨x, hx, rfl⟩)
    obtain ⟨d, hd, rfl⟩ := List.mem_map.1 ht
    obtain ⟨z, hz, rfl⟩ := List.mem_map.1 hy
    exact (hc d hd z hz).2
theorem right_knows {W w : World} {L : List Chunk} {n cb : Nat} {A B : Option Addr} {ds es : List Dn} {X : List Dd} (hl : es.length = n) (hR : ∀ e ∈ es, ∀ x ∈ e.l, RowsOk ds X x) (s : St W (Own 80 4 B n cb (nvs es) :: Inn 81 es :: Kn (RowsP X) :: L) w) : St W (Kn (fun w => DonesIn A ds w → DonesIn B es w) :: L) w := by
  subst hl
  refine kn_of (M := [Own 80 4 B es.length cb (nvs es), Inn 81 es, Kn (RowsP X)]) (fun w s hA => ⟨Own.reads s, fun d hd => ⟨?_, fun x hx => (hR d hd x hx).reads hA ((Knows.kn (j := 2) rfl) w s)⟩⟩) s
  have s2 := Sat.star_iff.1 (s.perm (perm_at (j := 1) rfl))
  obtain ⟨q, hq, e⟩ := List.getElem_of_mem hd
  have h2 : ((es.map fun d => Own 81 7 d.A d.l.length d.c (dvs d.l)) ++ [Own 80 4 B es.length cb (nvs es), Inn 81 es, Kn (RowsP X)].eraseIdx 1)[q]? = some (Own 81 7 d.A d.l.length d.c (dvs d.l)) := by
    rw [List.getElem?_append_left (by simpa using hq), List.getElem?_map, List.getElem?_eq_getElem hq, e]; rfl
  exact Own.reads (s2.perm (perm_at h2))

end Go.Proofs.Ytidfniglnmfphaa.B
