import Derived.Test.YtfcbjcohepkkfaaGreatJ11
import Derived.Test.YtfcbjcohepkkfaaGreatSepY
/-
 Find: what it answers, plain; how order's answer is known to those that read it.
-/
namespace Go.Proofs.YtfcbjcohepkkfaaGreat.P
open Go.RowKit Go.Proofs.YtfcbjcohepkkfaaGreat.B Go.Proofs.YtfcbjcohepkkfaaGreat.Sep
set_option linter.unusedVariables false
theorem findL_may {k : Look} {l : List Ev} {i : Nat} (h : findL k l i = none) : ∀ x ∈ l, ∃ ti, mayB ti x = true := by
 induction l generalizing k i with
 | nil => intro x hx; cases hx
 | cons y l ih =>
  unfold findL at h
  split at h
  ·
   rename_i hr
   intro x hx
   rcases List.mem_cons.1 hx with rfl | hx
   ·
    refine ⟨k.ti, ?_⟩
    cases e : mayB k.ti x with
    | true => rfl
    | false => unfold ruleL at hr; rw [if_pos e] at hr; cases hr
   exact ih h x hx
  cases h
theorem newPl_P {t : Tx} {i : Int} {acc : List Pl} {P : Nat × Ev → Prop} (h : ∀ q ∈ acc, ∀ y ∈ q.th, P y) : ∀ q ∈ newPl t i acc, ∀ y ∈ q.th, P y := by
 intro q hq
 unfold newPl at hq
 split at hq
 ·
  exact h q hq
 rcases List.mem_append.1 hq with hq | hq
 ·
  exact h q hq
 rw [List.mem_singleton] at hq; subst hq; intro y hy; cases hy
theorem ordStep_P {tx : Int → Tx} {acc : List Pl} {p : Nat × Ev} {P : Nat × Ev → Prop} (h : ∀ q ∈ acc, ∀ y ∈ q.th, P y) (hp : P p) : ∀ q ∈ ordStep tx acc p, ∀ y ∈ q.th, P y := by
 have hn := newPl_P (t := tx p.2.id) (i := p.2.id) h
 intro q hq
 unfold ordStep at hq
 split at hq
 ·
  split at hq
  ·
   unfold addPl at hq
   obtain ⟨z, hz, e⟩ := List.mem_map.1 hq
   have := hn z hz
   split at e <;> subst e
   ·
    intro y hy
    rcases List.mem_append.1 hy with hy | hy
    ·
     exact this y hy
    rw [List.mem_singleton] at hy; subst hy; exact hp
   exact this
  exact hn q hq
 exact h q hq
theorem numd_mem {l : List Ev} {p : Nat × Ev} (h : p ∈ numd l) : l[p.1]? = some p.2 := by
 obtain ⟨⟨x, i⟩, hx, rfl⟩ := List.mem_map.1 h
 exact List.mk_mem_zipIdx_iff_getElem?.1 hx
theorem ordL_mem (tx : Int → Tx) (l : List Ev) : ∀ q ∈ ordL tx l, ∀ y ∈ q.th, l[y.1]? = some y.2 := by
 have : ∀ (m : List (Nat × Ev)) (acc : List Pl), (∀ p ∈ m, l[p.1]? = some p.2) → (∀ q ∈ acc, ∀ y ∈ q.th, l[y.1]? = some y.2) → ∀ q ∈ m.foldl (ordStep tx) acc, ∀ y ∈ q.th, l[y.1]? = some y.2 := by
  intro m
  induction m with
  | nil => intro acc _ h; exact h
  | cons p m ih => intro acc hm h; exact ih _ (fun z hz => hm z (by simp [hz])) (ordStep_P h (hm p (by simp)))
 exact this (numd l) [] (fun p hp => numd_mem hp) (fun q hq => by cases hq)
theorem ordL_from (tx : Int → Tx) (l : List Ev) : ∀ q ∈ ordL tx l, ∃ x ∈ l, q.id = x.id := by
 have hs : ∀ (acc : List Pl) (p : Nat × Ev), p.2 ∈ l → (∀ q ∈ acc, ∃ x ∈ l, q.id = x.id) → ∀ q ∈ ordStep tx acc p, ∃ x ∈ l, q.id = x.id := by
  intro acc p hp h
  have hn : ∀ q ∈ newPl (tx p.2.id) p.2.id acc, ∃ x ∈ l, q.id = x.id := by
   intro q hq
   unfold newPl at hq
   split at hq
   ·
    exact h q hq
   rcases List.mem_append.1 hq with hq | hq
   ·
    exact h q hq
   rw [List.mem_singleton] at hq; subst hq; exact ⟨p.2, hp, rfl⟩
  intro q hq
  unfold ordStep at hq
  split at hq
  ·
   split at hq
   ·
    unfold addPl at hq
    obtain ⟨z, hz, e⟩ := List.mem_map.1 hq
    have := hn z hz
    split at e <;> subst e <;> exact this
   exact hn q hq
  exact h q hq
 have : ∀ (m : List (Nat × Ev)) (acc : List Pl), (∀ p ∈ m, p.2 ∈ l) → (∀ q ∈ acc, ∃ x ∈ l, q.id = x.id) → ∀ q ∈ m.foldl (ordStep tx) acc, ∃ x ∈ l, q.id = x.id := by
  intro m
  induction m with
  | nil => intro acc _ h; exact h
  | cons p m ih => intro acc hm h; exact ih _ (fun z hz => hm z (by simp [hz])) (hs acc p (hm p (by simp)) h)
 exact this (numd l) [] (fun p hp => List.mem_of_getElem? (numd_mem hp)) (fun q hq => by cases hq)
def tnsP (acc : List Pl) : List Tn := acc.map fun q => ⟨q.id, q.wall, q.logic, q.th.map fun p => (didOf p.2).t⟩
def dnsP (acc : List Pl) : List Dn := acc.map fun q => ⟨q.id, q.wall, q.logic, none, 0, q.th.map fun p => didOf p.2⟩
def er (d : Dn) : Dn := { d with A := none, c := 0 }
theorem first_mem {τ : Type} {R : List Rw} {l : List (τ × Td)} {a : τ} (h : first R l = some a) : ∃ x, (a, x) ∈ l := by
 induction l generalizing R with
 | nil => cases h
 | cons y l ih =>
  unfold first at h
  split at h
  ·
   obtain ⟨x, hx⟩ := ih h; exact ⟨x, by simp [hx]⟩
  cases h; exact ⟨y.2, by simp⟩
theorem found_at {T : List Tn} {o : List Nat} {t d : Nat} (h : found T o = some (t, d)) (ho : IsOrd T o) : t < T.length ∧ ∃ x, (tAt T t).l[d]? = some x := by
 obtain ⟨x, hx⟩ := first_mem h
 obtain ⟨i, hi, hx⟩ := List.mem_flatMap.1 hx
 obtain ⟨⟨y, j⟩, hy, e⟩ := List.mem_map.1 hx
 simp only [Prod.mk.injEq] at e
 obtain ⟨⟨rfl, rfl⟩, rfl⟩ := e
 exact ⟨by simpa using ho.1.mem_iff.1 hi, y, List.mk_mem_zipIdx_iff_getElem?.1 hy⟩
theorem _root_.Go.Proofs.YtfcbjcohepkkfaaGreat.B.OrdOk.tns {acc : List Pl} {ds : List Dn} {rs : List At} {D : List (Int × Value)} (h : OrdOk acc ds rs D) : tns ds = tnsP acc := by
 have := congrArg (List.map fun (z : Int × Int × Int × List Dd) => (⟨z.1, z.2.1, z.2.2.1, z.2.2.2.map (·.t)⟩ : Tn)) h.all
 rw [List.map_map, List.map_map] at this
 unfold tnsP
 refine Eq.trans ?_ (this.trans ?_)
 ·
  rfl
 apply List.map_congr_left; intro q _; simp only [Function.comp, List.map_map]; rfl
theorem _root_.Go.Proofs.YtfcbjcohepkkfaaGreat.B.OrdOk.dns {acc : List Pl} {ds : List Dn} {rs : List At} {D : List (Int × Value)} (h : OrdOk acc ds rs D) : ds.map er = dnsP acc := by
 have := congrArg (List.map fun (z : Int × Int × Int × List Dd) => (⟨z.1, z.2.1, z.2.2.1, none, 0, z.2.2.2⟩ : Dn)) h.all
 rw [List.map_map, List.map_map] at this
 exact this
theorem _root_.Go.Proofs.YtfcbjcohepkkfaaGreat.B.OrdOk.from_ {acc : List Pl} {ds : List Dn} {rs : List At} {D : List (Int × Value)} (h : OrdOk acc ds rs D) {d : Dn} (hd : d ∈ ds) : ∃ q ∈ acc, d.id = q.id ∧ d.l = q.th.map fun p => didOf p.2 := by
 have : (d.id, d.wall, d.logic, d.l) ∈ ds.map fun d => (d.id, d.wall, d.logic, d.l) := List.mem_map.2 ⟨d, hd, rfl⟩
 rw [h.all] at this
 obtain ⟨q, hq, e⟩ := List.mem_map.1 this
 simp only [Prod.mk.injEq] at e
 exact ⟨q, hq, e.1.symm, e.2.2.2.symm⟩
theorem _root_.Go.Proofs.YtfcbjcohepkkfaaGreat.B.OrdOk.did {tx : Int → Tx} {l : List Ev} {ds : List Dn} {rs : List At} {D : List (Int × Value)} (h : OrdOk (ordL tx l) ds rs D) {d : Dn} (hd : d ∈ ds) : d.l.length ≤ l.length ∧ (∃ x ∈ l, d.id = x.id) ∧ ∀ x ∈ d.l, ∃ e ∈ l, x = didOf e := by
 obtain ⟨q, hq, e1, e2⟩ := h.from_ hd
 refine ⟨by rw [e2, List.length_map]; exact ordL_th tx l q hq, ?_, fun x hx => ?_⟩
 ·
  obtain ⟨x, hx, e⟩ := ordL_from tx l q hq; exact ⟨x, hx, e1.trans e⟩
 rw [e2] at hx
 obtain ⟨p, hp, rfl⟩ := List.mem_map.1 hx
 exact ⟨p.2, List.mem_of_getElem? (ordL_mem tx l q hq p hp), rfl⟩
/-- Lengths that may be. -/
def Be (l : List Ev) : Prop := ∀ x ∈ l, x.rows.length ≤ 140737488351232 ∧ x.key.length ≤ 140737488351232
theorem _root_.Go.Proofs.YtfcbjcohepkkfaaGreat.B.OrdOk.bn {tx : Int → Tx} {l : List Ev} {ds : List Dn} {rs : List At} {D : List (Int × Value)} (h : OrdOk (ordL tx l) ds rs D) (hl : l.length ≤ 5000) (hb : Be l) : Bn ds := by
 refine ⟨by have := h.len.1; have := ordL_len tx l; omega, fun d hd => ?_⟩
 have h1 := h.did hd
 refine ⟨by omega, fun x hx => ?_⟩
 obtain ⟨e, he, rfl⟩ := h1.2.2 x hx
 exact hb e he
theorem ord_knows {L : List Chunk} {A A1 : Option Addr} {c1 : Nat} {tx : Int → Tx} {l : List Ev} {ds : List Dn} {rs : List At} {D : List (Int × Value)} (h : OrdOk (ordL tx l) ds rs D) (hr : Knows L (EvsIn A l)) : Knows (Own 77 4 A1 ds.length c1 (nvs ds) :: Inn 79 ds :: L) (DonesIn A1 ds) := by
 intro w s
 refine ⟨Own.reads s, fun d hd => ⟨?_, fun x hx => ?_⟩⟩
 ·
  obtain ⟨m, hm⟩ := List.mem_iff_getElem?.1 hd
  have s1 := Sat.star_iff.1 s.tail
  have h2 : (ds.map fun d => Own 79 7 d.A d.l.length d.c (dvs d.l))[m]? = some (Own 79 7 d.A d.l.length d.c (dvs d.l)) := by rw [List.getElem?_map, hm]; rfl
  exact Own.reads (Sat.perm s1 ((perm_at h2).append_right L))
 obtain ⟨e, he, rfl⟩ := (h.did hd).2.2 x hx
 exact (hr w s.tail.tail).2 e he
theorem knF_er (ds : List Dn) (i : Int) : knF (ds.map er) i = (knF ds i).map er := by
 have : ∀ (ds : List Dn) (o : Option Dn), (ds.map er).foldl (fun o d => if d.id = i then some d else o) (o.map er) = (ds.foldl (fun o d => if d.id = i then some d else o) o).map er := by
  intro ds
  induction ds with
  | nil => intro o; rfl
  | cons d ds ih =>
   intro o
   rw [List.map_cons, List.foldl_cons, List.foldl_cons, ← ih]
   congr 1
   show (if d.id = i then some (er d) else o.map er) = (if d.id = i then some d else o).map er
   split <;> rfl
 exact this ds none
theorem late_er {kn kn2 : Int → Option Dn} (h : ∀ i, kn2 i = (kn i).map er) (told : List Dn) (l : List Ev) (i : Nat) : lateL kn2 (told.map er) l i = lateL kn told l i := by
 induction l generalizing told i with
 | nil => rfl
 | cons x l ih =>
  have h1 : badL kn2 (told.map er) x = badL kn told x := by
   unfold badL
   rw [h]
   cases kn x.id with
   | none => rfl
   | some a =>
    simp only [Option.map_some, List.any_map]
    rfl
  have h2 : tolds kn2 x = (tolds kn x).map er := by
   unfold tolds
   split
   ·
    rw [h]; cases kn x.id <;> rfl
   rfl
  unfold lateL
  rw [h1, h2, ← List.map_append, ih]
def placeOf (acc : List Pl) (t d : Nat) : Nat := (((acc[t]?.map (·.th)).getD [])[d]?.map (·.1)).getD 0
def wellF (acc : List Pl) (l : List Ev) (o : List Nat) : Nat × Nat :=
 match (if code (tnsP acc) = 0 then found (tnsP acc) o else none) with
 | some (t, d) => (7, placeOf acc t d)
 | none => match lateL (knF (dnsP acc)) [] l 0 with | some i => (8, i) | none => (0, 0)
def txsL (l : List Ev) : Int → Tx := (l.foldl seeL (startL l)).tx
def resF (l : List Ev) (well : Bool) (o : List Nat) : Nat × Nat :=
 match findL (startL l) l 0 with
 | some p => p
 | none => if well then wellF (ordL (txsL l) l) l o else (0, 0)
def resV (p : Nat × Nat) : Value := .tuple #[.int .i64 (p.1 : Int), .int .i64 (p.2 : Int), .int .i64 0]
theorem late_ord {acc : List Pl} {ds : List Dn} {rs : List At} {D : List (Int × Value)} (h : OrdOk acc ds rs D) (l : List Ev) : lateL (knF ds) [] l 0 = lateL (knF (dnsP acc)) [] l 0 := by
 rw [← h.dns]
 exact (late_er (fun i => knF_er ds i) [] l 0).symm
theorem ord_place {tx : Int → Tx} {l : List Ev} {ds : List Dn} {rs : List At} {D : List (Int × Value)} {o : List Nat} {t d : Nat} (h : OrdOk (ordL tx l) ds rs D) (hf : found (tns ds) o = some (t, d)) (ho : IsOrd (tns ds) o) : ∃ a, rs[t]? = some a ∧ a.l[d]? = some (placeOf (ordL tx l) t d) := by
 obtain ⟨ht, x, hx⟩ := found_at hf ho
 rw [List.length_map] at ht
 have hl := h.len
 have hq : (ordL tx l)[t]? = some ((ordL tx l)[t]'(by omega)) := List.getElem?_eq_getElem _
 obtain ⟨d0, a, hd0, ha, hdl, hal⟩ := h.pick hq
 refine ⟨a, ha, ?_⟩
 have e2 : a.l = ((ordL tx l)[t]'(by omega)).th.map (·.1) := by
  have := congrArg (·[t]?) h.at_
  simp only [List.getElem?_map, hq, ha, Option.map_some] at this
  exact Option.some.inj this
 have hd : d < a.l.length := by
  have h3 : tAt (tns ds) t = d0.t := by unfold tAt; rw [List.getD_eq_getElem?_getD, List.getElem?_map, hd0]; rfl
  rw [h3] at hx
  obtain ⟨h4, _⟩ := List.getElem?_eq_some_iff.1 hx
  have : d0.t.l.length = d0.l.length := by simp [Dn.t]
  omega
 have h5 : d < ((ordL tx l)[t]'(by omega)).th.length := by rw [e2, List.length_map] at hd; exact hd
 unfold placeOf
 rw [hq, e2, List.getElem?_map, Option.map_some, Option.getD_some, List.getElem?_eq_getElem h5]
 rfl
end Go.Proofs.YtfcbjcohepkkfaaGreat.P
