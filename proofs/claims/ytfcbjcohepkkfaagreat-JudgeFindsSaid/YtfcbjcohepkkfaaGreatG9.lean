import Derived.Test.YtfcbjcohepkkfaaGreatG8
import Derived.Test.YtfcbjcohepkkfaaGreatSepY
namespace Go.Proofs.YtfcbjcohepkkfaaGreat.B
open Go.RowKit Go.Maps Go.Sort Go.Shelf Go.Proofs.YtfcbjcohepkkfaaGreat.Sep Go.Proofs.YtfcbjcohepkkfaaGreat.P
set_option linter.unusedVariables false
set_option linter.unusedSimpArgs false
/-! ### the reference's Find -/
theorem OrdS.tns {acc : List Pl} {ds : List Dn} {rs : List At} (h : OrdS acc ds rs) : tns ds = tnsP acc := by
 have := congrArg (List.map fun (z : Int × Int × Int × List Dd) => (⟨z.1, z.2.1, z.2.2.1, z.2.2.2.map (·.t)⟩ : Tn)) h.all
 rw [List.map_map, List.map_map] at this
 unfold tnsP
 refine Eq.trans ?_ (this.trans ?_)
 ·
  rfl
 apply List.map_congr_left; intro q _; simp only [Function.comp, List.map_map]; rfl
theorem OrdS.dns {acc : List Pl} {ds : List Dn} {rs : List At} (h : OrdS acc ds rs) : ds.map er = dnsP acc := by
 have := congrArg (List.map fun (z : Int × Int × Int × List Dd) => (⟨z.1, z.2.1, z.2.2.1, none, 0, z.2.2.2⟩ : Dn)) h.all
 rw [List.map_map, List.map_map] at this
 exact this
theorem OrdS.did {l : List Ev} {ds : List Dn} {rs : List At} (h : OrdS (orderR l) ds rs) {d : Dn} (hd : d ∈ ds) : d.l.length ≤ l.length ∧ ∀ x ∈ d.l, ∃ e ∈ l, x = didOf e := by
 have : (d.id, d.wall, d.logic, d.l) ∈ ds.map fun d => (d.id, d.wall, d.logic, d.l) := List.mem_map.2 ⟨d, hd, rfl⟩
 rw [h.all] at this
 obtain ⟨q, hq, e⟩ := List.mem_map.1 this
 simp only [Prod.mk.injEq] at e
 have hg := (ordR_is l).is q hq
 have e2 : d.l = q.th.map fun p => didOf p.2 := e.2.2.2.symm
 have e3 : q.th = (gPl l q.id).th := congrArg Pl.th hg
 refine ⟨?_, fun x hx => ?_⟩
 ·
  rw [e2, List.length_map, e3]
  unfold gPl
  refine Nat.le_trans (List.length_filter_le _ _) ?_
  simp [numd]
 rw [e2] at hx
 obtain ⟨p, hp, rfl⟩ := List.mem_map.1 hx
 rw [e3] at hp
 unfold gPl at hp
 exact ⟨p.2, List.mem_of_getElem? (numd_mem (List.mem_filter.1 hp).1), rfl⟩
theorem orderR_len (l : List Ev) : (orderR l).length ≤ l.length := by
 have := acc_len l l.length (Nat.le_refl _)
 rwa [List.take_length] at this
theorem OrdS.bn {l : List Ev} {ds : List Dn} {rs : List At} (h : OrdS (orderR l) ds rs) (hl : l.length ≤ 5000) (hb : Be l) : Bn ds := by
 refine ⟨by have := h.len.1; have := orderR_len l; omega, fun d hd => ?_⟩
 have h1 := h.did hd
 refine ⟨by omega, fun x hx => ?_⟩
 obtain ⟨e, he, rfl⟩ := h1.2 x hx
 exact hb e he
theorem rord_knows {L : List Chunk} {A A1 : Option Addr} {c1 : Nat} {l : List Ev} {ds : List Dn} {rs : List At} (h : OrdS (orderR l) ds rs) (hr : Knows L (EvsIn A l)) : Knows (Own 97 4 A1 ds.length c1 (nvs ds) :: Inn 99 ds :: L) (DonesIn A1 ds) := by
 intro w s
 refine ⟨Own.reads s, fun d hd => ⟨?_, fun x hx => ?_⟩⟩
 ·
  obtain ⟨m, hm⟩ := List.mem_iff_getElem?.1 hd
  have s1 := Sat.star_iff.1 s.tail
  have h2 : (ds.map fun d => Own 99 7 d.A d.l.length d.c (dvs d.l))[m]? = some (Own 99 7 d.A d.l.length d.c (dvs d.l)) := by rw [List.getElem?_map, hm]; rfl
  exact Own.reads (Sat.perm s1 ((perm_at h2).append_right L))
 obtain ⟨e, he, rfl⟩ := (h.did hd).2 x hx
 exact (hr w s.tail.tail).2 e he
theorem OrdS.pick {acc : List Pl} {ds : List Dn} {rs : List At} (h : OrdS acc ds rs) {m : Nat} (hm : m < acc.length) : ∃ d a, ds[m]? = some d ∧ rs[m]? = some a ∧ d.l.length = (acc[m]).th.length ∧ a.l = (acc[m]).th.map (·.1) := by
 have hl := h.len
 have hq : acc[m]? = some acc[m] := List.getElem?_eq_getElem hm
 refine ⟨ds[m]'(by omega), rs[m]'(by omega), List.getElem?_eq_getElem _, List.getElem?_eq_getElem _, ?_, ?_⟩
 ·
  have := congrArg (·[m]?) h.all
  simp only [List.getElem?_map, hq, List.getElem?_eq_getElem (show m < ds.length by omega), Option.map_some, Option.some.injEq, Prod.mk.injEq] at this
  rw [this.2.2.2, List.length_map]
 have := congrArg (·[m]?) h.at_
 simp only [List.getElem?_map, hq, List.getElem?_eq_getElem (show m < rs.length by omega), Option.map_some, Option.some.injEq] at this
 exact this
theorem rord_place {l : List Ev} {ds : List Dn} {rs : List At} {o : List Nat} {t d : Nat} (h : OrdS (orderR l) ds rs) (hf : found (tns ds) o = some (t, d)) (ho : IsOrd (tns ds) o) : ∃ a, rs[t]? = some a ∧ a.l[d]? = some (placeOf (orderR l) t d) := by
 obtain ⟨ht, x, hx⟩ := found_at hf ho
 rw [List.length_map] at ht
 have hl := h.len
 obtain ⟨d0, a, hd0, ha, hdl, hal⟩ := h.pick (show t < (orderR l).length by omega)
 refine ⟨a, ha, ?_⟩
 have h3 : tAt (tns ds) t = d0.t := by unfold tAt; rw [List.getD_eq_getElem?_getD, List.getElem?_map, hd0]; rfl
 rw [h3] at hx
 obtain ⟨h4, _⟩ := List.getElem?_eq_some_iff.1 hx
 have h6 : d0.t.l.length = d0.l.length := by simp [Dn.t]
 have h5 : d < ((orderR l)[t]'(by omega)).th.length := by omega
 unfold placeOf
 rw [List.getElem?_eq_getElem (show t < (orderR l).length by omega), hal, List.getElem?_map, Option.map_some, Option.getD_some, List.getElem?_eq_getElem h5]
 rfl
theorem most_bound {p : List Ev} (h : ∀ y ∈ p, y.kind = 1 → 1 ≤ y.id ∧ y.id ≤ 9007199254740991) : mostR p ≤ 9007199254740991 ∧ 0 ≤ mostR p := by
 have : ∀ (p : List Ev) (m : Int), (∀ y ∈ p, y.kind = 1 → 1 ≤ y.id ∧ y.id ≤ 9007199254740991) → (m ≤ 9007199254740991 ∧ 0 ≤ m) → p.foldl mostStep m ≤ 9007199254740991 ∧ 0 ≤ p.foldl mostStep m := by
  intro p
  induction p with
  | nil => intro m _ h; exact h
  | cons y p ih =>
   intro m h hm
   refine ih _ (fun z hz => h z (by simp [hz])) ?_
   unfold mostStep
   split
   ·
    rename_i e; have := h y (by simp) e; omega
   exact hm
 exact this p 0 h (by omega)
def passed (l : List Ev) (i : Nat) : Prop := ∀ j y, j < i → l[j]? = some y → ruleR (tiR l j) (l.take j) y = 0
theorem passed_next {l : List Ev} {i : Nat} {x : Ev} (h : passed l i) (hx : l[i]? = some x) (h0 : ruleR (tiR l i) (l.take i) x = 0) : passed l (i + 1) := by
 intro j y hj hy
 by_cases e : j = i
 ·
  subst e; rw [hx] at hy; cases hy; exact h0
 exact h j y (by omega) hy
theorem ruleR_may {ti : Int} {p : List Ev} {x : Ev} (h : ruleR ti p x = 0) : mayB ti x = true := by
 cases e : mayB ti x with
 | true => rfl
 | false => unfold ruleR at h; rw [if_pos e] at h; cases h
theorem passed_most {l : List Ev} {i : Nat} (h : passed l i) : mostR (l.take i) ≤ 9007199254740991 ∧ 0 ≤ mostR (l.take i) := by
 refine most_bound fun y hy hk => ?_
 obtain ⟨j, hj⟩ := List.mem_iff_getElem?.1 hy
 rw [List.getElem?_take] at hj
 split at hj
 ·
  rename_i hji
  exact may_has (ruleR_may (h j y hji hj)) (by simp [hasB, hk])
 cases hj
theorem findR_skip {l : List Ev} : ∀ i, passed l i → i ≤ l.length → findR (startL l).ti [] l = findR (tiR l i) (l.take i) (l.drop i) := by
 intro i
 induction i with
 | zero => intro _ _; rw [List.take_zero, List.drop_zero]; unfold tiR; rw [if_pos rfl]
 | succ i ih =>
  intro h hi
  have hx : l[i]? = some (l[i]'(by omega)) := List.getElem?_eq_getElem _
  have h0 := h i _ (by omega) hx
  rw [ih (fun j y hj hy => h j y (by omega) hy) (by omega), List.drop_eq_getElem_cons (show i < l.length by omega)]
  have e1 : (l[i]'(by omega)).ti = tiR l (i + 1) := by
   unfold tiR; rw [if_neg (by omega), Nat.add_sub_cancel, hx]; rfl
  conv => lhs; unfold findR
  rw [if_pos h0, e1, ← take_snoc hx]
theorem findR_hit {l : List Ev} {i r : Nat} {x : Ev} (h : passed l i) (hx : l[i]? = some x) (hr : ruleR (tiR l i) (l.take i) x = r) (h0 : r ≠ 0) : findR (startL l).ti [] l = some (r, i) := by
 obtain ⟨hi, e⟩ := List.getElem?_eq_some_iff.1 hx
 rw [findR_skip i h (by omega), List.drop_eq_getElem_cons hi, e]
 unfold findR
 rw [hr, if_neg h0, List.length_take, Nat.min_eq_left (by omega)]
theorem findR_no {l : List Ev} (h : passed l l.length) : findR (startL l).ti [] l = none := by
 rw [findR_skip l.length h (Nat.le_refl _), List.drop_length]; rfl
theorem lateB_er (p : List Ev) (x : Ev) (ds : List Dn) : lateB p x (ds.map er) = lateB p x ds := by
 unfold lateB
 simp only [List.any_map]
 rfl
def quiet (l : List Ev) (ds : List Dn) (i : Nat) : Prop := ∀ j y, j < i → l[j]? = some y → lateB (l.take j) y ds = false
theorem quiet_next {l : List Ev} {ds : List Dn} {i : Nat} {x : Ev} (h : quiet l ds i) (hx : l[i]? = some x) (h0 : lateB (l.take i) x ds = false) : quiet l ds (i + 1) := by
 intro j y hj hy
 by_cases e : j = i
 ·
  subst e; rw [hx] at hy; cases hy; exact h0
 exact h j y (by omega) hy
theorem lateR_skip {l : List Ev} {ds : List Dn} : ∀ i, quiet l ds i → i ≤ l.length → lateR (ds.map er) [] l = lateR (ds.map er) (l.take i) (l.drop i) := by
 intro i
 induction i with
 | zero => intro _ _; rw [List.take_zero, List.drop_zero]
 | succ i ih =>
  intro h hi
  have hx : l[i]? = some (l[i]'(by omega)) := List.getElem?_eq_getElem _
  have h0 := h i _ (by omega) hx
  rw [ih (fun j y hj hy => h j y (by omega) hy) (by omega), List.drop_eq_getElem_cons (show i < l.length by omega)]
  conv => lhs; unfold lateR
  rw [lateB_er, h0, if_neg (by decide), ← take_snoc hx]
theorem lateR_hit {l : List Ev} {ds : List Dn} {i : Nat} {x : Ev} (h : quiet l ds i) (hx : l[i]? = some x) (h0 : lateB (l.take i) x ds = true) : lateR (ds.map er) [] l = some i := by
 obtain ⟨hi, e⟩ := List.getElem?_eq_some_iff.1 hx
 rw [lateR_skip i h (by omega), List.drop_eq_getElem_cons hi, e]
 unfold lateR
 rw [lateB_er, h0, if_pos rfl, List.length_take, Nat.min_eq_left (by omega)]
theorem lateR_no {l : List Ev} {ds : List Dn} (h : quiet l ds l.length) : lateR (ds.map er) [] l = none := by
 rw [lateR_skip l.length h (Nat.le_refl _), List.drop_length]; rfl
theorem resR_rule {l : List Ev} {p : Nat × Nat} (h : findR (startL l).ti [] l = some p) (well : Bool) (o : List Nat) : resR l well o = p := by unfold resR; rw [h]
theorem resR_not {l : List Ev} (h : findR (startL l).ti [] l = none) (o : List Nat) : resR l false o = (0, 0) := by unfold resR; rw [h]; rfl
theorem resR_seven {l : List Ev} (h : findR (startL l).ti [] l = none) {o : List Nat} {t d : Nat} (h0 : code (tnsP (orderR l)) = 0) (hf : found (tnsP (orderR l)) o = some (t, d)) : resR l true o = (7, placeOf (orderR l) t d) := by
 unfold resR; rw [h]; simp only [if_true]; unfold wellR; rw [if_pos h0, hf]
theorem resR_late {l : List Ev} (h : findR (startL l).ti [] l = none) {o : List Nat} (h0 : code (tnsP (orderR l)) = 0 → found (tnsP (orderR l)) o = none) : resR l true o = match lateR (dnsP (orderR l)) [] l with | some i => (8, i) | none => (0, 0) := by
 unfold resR; rw [h]; simp only [if_true]; unfold wellR
 by_cases e : code (tnsP (orderR l)) = 0
 ·
  rw [if_pos e, h0 e]; rfl
 rw [if_neg e]; rfl


end Go.Proofs.YtfcbjcohepkkfaaGreat.B
