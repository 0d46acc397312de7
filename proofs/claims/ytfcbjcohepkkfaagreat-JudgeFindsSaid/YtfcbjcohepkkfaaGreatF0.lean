import Derived.Test.YtfcbjcohepkkfaaGreatJ16
import Derived.Test.YtfcbjcohepkkfaaGreatSepY
/-
 The reference's rules, plain: what each looks at of the events ahead; that they are the program's.
-/
namespace Go.Proofs.YtfcbjcohepkkfaaGreat.P
open Go.Proofs.YtfcbjcohepkkfaaGreat.B
set_option linter.unusedVariables false
set_option linter.unusedSimpArgs false
def upStep (n : Int) (u : Bool) (y : Ev) : Bool := if y.node = n ∧ y.kind = 6 then true else if y.node = n ∧ y.kind = 5 then false else u
def upR (p : List Ev) (n : Int) : Bool := p.foldl (upStep n) true
def mostStep (m : Int) (y : Ev) : Int := if y.kind = 1 then max m y.id else m
def mostR (p : List Ev) : Int := p.foldl mostStep 0
/-- The last event ahead that is of an id, or its node's fall. -/
def lastStep (id : Int) (o : Option (Nat × Ev)) (y : Nat × Ev) : Option (Nat × Ev) :=
 let o1 := if hasB y.2 ∧ y.2.id = id ∧ y.2.kind ≠ 4 then some y else o
 match o1 with
 | some z => if y.2.kind = 5 ∧ z.2.node = y.2.node then some y else some z
 | none => none
def lastR (p : List Ev) (id : Int) : Option (Nat × Ev) := (numd p).foldl (lastStep id) none
def setB (id : Int) (y : Ev) : Bool := y.kind == 3 && y.id == id && (comB y || (y.op == 7 && y.err == 0))
def setR (p : List Ev) (id : Int) : Bool := p.any (setB id)
def ofB (id : Int) (y : Ev) : Bool := hasB y && y.id == id
/-- Do two events of a transaction not agree? -/
def clash (x y : Ev) : Bool := (comB x && (abrB y || (comB y && (x.epoch != y.epoch || !decide ((x.wall, x.logic) = (y.wall, y.logic)))))) || (abrB x && comB y)
def nodesR (p : List Ev) (x : Ev) : Bool := if x.kind = 6 then !upR p x.node else x.kind == 4 || upR p x.node
def beginsR (p : List Ev) (x : Ev) : Bool := (x.kind != 1) || x.id == mostR p + 1
def asksR (p : List Ev) (x : Ev) : Bool := (x.kind != 2) || ((match lastR p x.id with | some z => z.2.node == x.node && (z.2.kind == 1 || z.2.kind == 3) | none => false) && !setR p x.id)
def answersR (p : List Ev) (x : Ev) : Bool := (x.kind != 3) || (match lastR p x.id with | some z => z.2.kind == 2 && z.2.node == x.node && z.2.op == x.op && decide (z.2.key = x.key) && decide ((z.2.frm, z.2.to) = (x.frm, x.to)) && decide (x.epoch ≥ z.2.epoch) | none => false)
def agreesR (p : List Ev) (x : Ev) : Bool := p.all fun y => !(ofB x.id y && clash x y)
theorem upR_snoc (p : List Ev) (x : Ev) (n : Int) : upR (p ++ [x]) n = upStep n (upR p n) x := by simp [upR]
theorem mostR_snoc (p : List Ev) (x : Ev) : mostR (p ++ [x]) = mostStep (mostR p) x := by simp [mostR]
theorem numd_snoc (p : List Ev) (x : Ev) : numd (p ++ [x]) = numd p ++ [(p.length, x)] := by simp [numd, List.zipIdx_append]
theorem lastR_snoc (p : List Ev) (x : Ev) (id : Int) : lastR (p ++ [x]) id = lastStep id (lastR p id) (p.length, x) := by simp [lastR, numd_snoc]
theorem setR_snoc (p : List Ev) (x : Ev) (id : Int) : setR (p ++ [x]) id = (setR p id || setB id x) := by simp [setR]
/-- What is known of a transaction is what the events ahead say. -/
structure TxOk (t : Tx) (p : List Ev) (id most : Int) : Prop where
 off : t.began = false → lastR p id = none ∧ t.stand = 0 ∧ setR p id = false ∧ t.node = 0
 on : t.began = true → id ≤ most ∧ ∃ z, lastR p id = some z ∧ z.2.node = t.node ∧
  ((t.stand = 0 ∧ (z.2.kind = 1 ∨ z.2.kind = 3) ∧ setR p id = false) ∨ (t.stand = 1 ∧ z.2.kind = 2 ∧ t.ask = z.2 ∧ setR p id = false) ∨ (t.stand = 2 ∧ z.2.kind = 5) ∨ (t.stand = 3 ∧ z.2.kind = 3 ∧ setR p id = true))
 com : t.comm = p.any fun y => ofB id y && comB y
 same : ∀ y ∈ p, ofB id y = true → comB y = true → y.epoch = t.epoch ∧ y.wall = t.wall ∧ y.logic = t.logic
 abr : t.abrt = p.any fun y => ofB id y && abrB y
structure Inv (k : Look) (p : List Ev) : Prop where
 dn : ∀ n, k.dn n = !upR p n
 most : k.most = mostR p
 pos : 0 ≤ k.most
 tx : ∀ id, TxOk (k.tx id) p id k.most
theorem Inv.start (l : List Ev) : Inv (startL l) [] := by
 refine ⟨fun n => rfl, rfl, Int.le_refl _, fun id => ⟨fun _ => ⟨rfl, rfl, rfl, rfl⟩, fun h => ?_, rfl, fun y hy => (by cases hy), rfl⟩⟩
 cases h
theorem comB_has {x : Ev} (h : comB x = true) : x.kind = 3 ∨ x.kind = 4 := by
 simp [comB] at h; rcases h with h | h
 ·
  exact .inl h.1.1
 exact .inr h.1
theorem abrB_has {x : Ev} (h : abrB x = true) : x.kind = 3 ∨ x.kind = 4 := by
 simp [abrB] at h; rcases h with h | h
 ·
  exact .inl h.1
 exact .inr h.1
theorem com_abr {x : Ev} (h : comB x = true) : abrB x = false := by
 cases e : abrB x with
 | false => rfl
 | true =>
  simp [comB] at h; simp [abrB] at e
  omega
theorem lastStep_other {id : Int} {o : Option (Nat × Ev)} {m : Nat} {x : Ev} (h : ¬ (hasB x ∧ x.id = id ∧ x.kind ≠ 4)) (h5 : x.kind ≠ 5) : lastStep id o (m, x) = o := by
 unfold lastStep
 simp only [if_neg h]
 cases o with
 | none => rfl
 | some z => simp [h5]
theorem lastStep_own {id : Int} {o : Option (Nat × Ev)} {m : Nat} {x : Ev} (h : hasB x ∧ x.id = id ∧ x.kind ≠ 4) : lastStep id o (m, x) = some (m, x) := by
 unfold lastStep
 simp only [if_pos h]
 simp
theorem lastStep_fall {id : Int} {o : Option (Nat × Ev)} {m : Nat} {x : Ev} (h : x.kind = 5) : lastStep id o (m, x) = match o with | some z => if z.2.node = x.node then some (m, x) else some z | none => none := by
 unfold lastStep
 have h2 : ¬ (hasB x ∧ x.id = id ∧ x.kind ≠ 4) := fun h3 => by have := h3.1; simp [hasB, h] at this
 simp only [if_neg h2]
 cases o with
 | none => rfl
 | some z => simp only [h, true_and]
/-- The end's marks: what an event more tells. -/
theorem end_ok {t : Tx} {p : List Ev} {id : Int} {x : Ev} (hc : t.comm = p.any fun y => ofB id y && comB y) (hs : ∀ y ∈ p, ofB id y = true → comB y = true → y.epoch = t.epoch ∧ y.wall = t.wall ∧ y.logic = t.logic) (ha : t.abrt = p.any fun y => ofB id y && abrB y)
  (hx : ofB id x = true) (hg : agreesB t x = true) :
  (endTx x t).comm = ((p ++ [x]).any fun y => ofB id y && comB y) ∧ (∀ y ∈ p ++ [x], ofB id y = true → comB y = true → y.epoch = (endTx x t).epoch ∧ y.wall = (endTx x t).wall ∧ y.logic = (endTx x t).logic) ∧ (endTx x t).abrt = ((p ++ [x]).any fun y => ofB id y && abrB y) := by
 have hh : hasB x = true := by simp [ofB] at hx; exact hx.1
 unfold agreesB at hg
 rw [if_neg (by rw [hh]; decide)] at hg
 simp only [List.any_append, List.any_cons, List.any_nil, Bool.or_false, hx, Bool.true_and]
 unfold endTx
 by_cases c : comB x = true
 ·
  rw [if_pos c] at hg ⊢
  simp only [Bool.and_eq_true, Bool.not_eq_true', Bool.or_eq_true, decide_eq_true_eq, Prod.mk.injEq, beq_iff_eq] at hg
  refine ⟨by rw [c, Bool.or_true], fun y hy hy2 hy3 => ?_, by rw [com_abr c, Bool.or_false, ← ha, hg.1]⟩
  rcases List.mem_append.1 hy with hy | hy
  ·
   have h1 := hs y hy hy2 hy3
   have h2 : t.comm = true := by rw [hc]; exact List.any_eq_true.2 ⟨y, hy, by rw [hy2, hy3]; rfl⟩
   rcases hg.2 with h3 | h3
   ·
    rw [h2] at h3; cases h3
   exact ⟨h1.1.trans h3.1, h1.2.1.trans h3.2.1, h1.2.2.trans h3.2.2⟩
  rw [List.mem_singleton] at hy; subst hy; exact ⟨rfl, rfl, rfl⟩
 rw [if_neg c] at hg ⊢
 have c2 : comB x = false := by simpa using c
 have hs2 : ∀ (e w g : Int), e = t.epoch → w = t.wall → g = t.logic → ∀ y ∈ p ++ [x], ofB id y = true → comB y = true → y.epoch = e ∧ y.wall = w ∧ y.logic = g := by
  rintro e w g rfl rfl rfl y hy hy2 hy3
  rcases List.mem_append.1 hy with hy | hy
  ·
   exact hs y hy hy2 hy3
  rw [List.mem_singleton] at hy; subst hy; rw [c2] at hy3; cases hy3
 by_cases d : abrB x = true
 ·
  rw [if_pos d]
  exact ⟨by rw [c2, Bool.or_false]; exact hc, hs2 _ _ _ rfl rfl rfl, by rw [d, Bool.or_true]⟩
 rw [if_neg d]
 have d2 : abrB x = false := by simpa using d
 exact ⟨by rw [c2, Bool.or_false]; exact hc, hs2 _ _ _ rfl rfl rfl, by rw [d2, Bool.or_false]; exact ha⟩
theorem end_other {t : Tx} {p : List Ev} {id : Int} {x : Ev} (hc : t.comm = p.any fun y => ofB id y && comB y) (hs : ∀ y ∈ p, ofB id y = true → comB y = true → y.epoch = t.epoch ∧ y.wall = t.wall ∧ y.logic = t.logic) (ha : t.abrt = p.any fun y => ofB id y && abrB y)
  (hx : ofB id x = false ∨ (comB x = false ∧ abrB x = false)) :
  t.comm = ((p ++ [x]).any fun y => ofB id y && comB y) ∧ (∀ y ∈ p ++ [x], ofB id y = true → comB y = true → y.epoch = t.epoch ∧ y.wall = t.wall ∧ y.logic = t.logic) ∧ t.abrt = ((p ++ [x]).any fun y => ofB id y && abrB y) := by
 simp only [List.any_append, List.any_cons, List.any_nil, Bool.or_false]
 refine ⟨?_, fun y hy hy2 hy3 => ?_, ?_⟩
 ·
  rw [hc]; rcases hx with h | h <;> simp [h]
 ·
  rcases List.mem_append.1 hy with hy | hy
  ·
   exact hs y hy hy2 hy3
  rw [List.mem_singleton] at hy; subst hy
  rcases hx with h | h
  ·
   rw [h] at hy2; cases hy2
  rw [h.1] at hy3; cases hy3
 rw [ha]; rcases hx with h | h <;> simp [h]
theorem endTx_keeps (x : Ev) (t : Tx) : (endTx x t).node = t.node ∧ (endTx x t).stand = t.stand ∧ (endTx x t).began = t.began ∧ (endTx x t).ask = t.ask := by
 unfold endTx; split
 ·
  exact ⟨rfl, rfl, rfl, rfl⟩
 split <;> exact ⟨rfl, rfl, rfl, rfl⟩
end Go.Proofs.YtfcbjcohepkkfaaGreat.P

/-
 The reference's rules, plain: one event more.
-/
namespace Go.Proofs.YtfcbjcohepkkfaaGreat.P
open Go.Proofs.YtfcbjcohepkkfaaGreat.B
set_option linter.unusedVariables false
set_option linter.unusedSimpArgs false
theorem rule_all {k : Look} {x : Ev} (h : ruleL k x = 0) : mayB k.ti x = true ∧ nodesB k.dn x = true ∧ beginsB k.most x = true ∧ asksB (k.tx x.id) x = true ∧ answersB (k.tx x.id) x = true ∧ agreesB (k.tx x.id) x = true := by
 unfold ruleL at h
 cases h1 : mayB k.ti x with
 | false => simp [h1] at h
 | true =>
 cases h2 : nodesB k.dn x with
 | false => simp [h1, h2] at h
 | true =>
 cases h3 : beginsB k.most x with
 | false => simp [h1, h2, h3] at h
 | true =>
 cases h4 : asksB (k.tx x.id) x with
 | false => simp [h1, h2, h3, h4] at h
 | true =>
 cases h5 : answersB (k.tx x.id) x with
 | false => simp [h1, h2, h3, h4, h5] at h
 | true =>
 cases h6 : agreesB (k.tx x.id) x with
 | false => simp [h1, h2, h3, h4, h5, h6] at h
 | true => exact ⟨rfl, rfl, rfl, rfl, rfl, rfl⟩
theorem setB_not {id : Int} {x : Ev} (h : x.kind ≠ 3 ∨ x.id ≠ id) : setB id x = false := by
 unfold setB; rcases h with h | h <;> simp [h]
theorem ofB_not {id : Int} {x : Ev} (h : hasB x = false ∨ x.id ≠ id) : ofB id x = false := by
 unfold ofB; rcases h with h | h <;> simp [h]
theorem has_kind {x : Ev} : hasB x = true ↔ 1 ≤ x.kind ∧ x.kind ≤ 4 := by simp [hasB]
theorem tx_other {t : Tx} {p : List Ev} {id m m2 : Int} (ht : TxOk t p id m) (hm : m ≤ m2) {x : Ev} (hid : hasB x = false ∨ x.id ≠ id) (h5 : x.kind ≠ 5) : TxOk t (p ++ [x]) id m2 := by
 have hl : lastR (p ++ [x]) id = lastR p id := by
  rw [lastR_snoc, lastStep_other (fun h => by rcases hid with e | e; rw [e] at h; cases h.1; exact e h.2.1) h5]
 have hs : setR (p ++ [x]) id = setR p id := by
  rw [setR_snoc, setB_not, Bool.or_false]
  rcases hid with e | e
  ·
   left; intro e3; have := (has_kind (x := x)).2 (by omega); rw [e] at this; cases this
  exact .inr e
 obtain ⟨e1, e2, e3⟩ := end_other ht.com ht.same ht.abr (x := x) (.inl (ofB_not hid))
 refine ⟨fun h => by rw [hl, hs]; exact ht.off h, fun h => ?_, e1, e2, e3⟩
 rw [hl, hs]
 exact ⟨Int.le_trans (ht.on h).1 hm, (ht.on h).2⟩
theorem end_id {x : Ev} {t : Tx} (h1 : comB x = false) (h2 : abrB x = false) : endTx x t = t := by unfold endTx; simp [h1, h2]
theorem com_not {x : Ev} (h : x.kind ≠ 3) (h4 : x.kind ≠ 4) : comB x = false ∧ abrB x = false := by
 constructor
 ·
  cases e : comB x with
  | false => rfl
  | true => rcases comB_has e with e | e <;> contradiction
 cases e : abrB x with
 | false => rfl
 | true => rcases abrB_has e with e | e <;> contradiction
theorem tx_step {k : Look} {p : List Ev} {x : Ev} (hk : Inv k p) (hr : ruleL k x = 0) (id : Int) : TxOk (stepTx x id (k.tx id)) (p ++ [x]) id (if x.kind = 1 then x.id else k.most) := by
 obtain ⟨h1, h2, h3, h4, h5, h6⟩ := rule_all hr
 have hn := may_node h1
 have ht := hk.tx id
 have hm : k.most ≤ if x.kind = 1 then x.id else k.most := by
  split
  ·
   rename_i e; simp [beginsB, e] at h3; omega
  exact Int.le_refl _
 unfold stepTx
 by_cases k5 : x.kind = 5
 ·
  rw [if_pos k5]
  have hs : setR (p ++ [x]) id = setR p id := by rw [setR_snoc, setB_not (.inl (by omega)), Bool.or_false]
  obtain ⟨e1, e2, e3⟩ := end_other ht.com ht.same ht.abr (x := x) (.inl (ofB_not (.inl (by cases e : hasB x with | false => rfl | true => have := has_kind.1 e; omega))))
  have hl : lastR (p ++ [x]) id = match lastR p id with | some z => if z.2.node = x.node then some (p.length, x) else some z | none => none := by rw [lastR_snoc, lastStep_fall k5] <;> cases lastR p id <;> rfl
  by_cases e : (k.tx id).node = x.node
  ·
   rw [if_pos e]
   refine ⟨fun h => ?_, fun h => ?_, e1, e2, e3⟩
   ·
    have := (ht.off h).2.2.2; omega
   obtain ⟨hle, z, hz, hzn, _⟩ := ht.on h
   refine ⟨by omega, (p.length, x), ?_, e.symm, .inr (.inr (.inl ⟨rfl, k5⟩))⟩
   rw [hl, hz]; simp only; rw [if_pos (by omega)]
  rw [if_neg e]
  refine ⟨fun h => ?_, fun h => ?_, e1, e2, e3⟩
  ·
   have h0 := ht.off h
   rw [hl, h0.1, hs]; exact ⟨rfl, h0.2⟩
  obtain ⟨hle, z, hz, hzn, hc⟩ := ht.on h
  refine ⟨by omega, z, ?_, hzn, ?_⟩
  ·
   rw [hl, hz]; simp only; rw [if_neg (by omega)]
  rw [hs]; exact hc
 rw [if_neg k5]
 by_cases k6 : x.kind = 6
 ·
  rw [if_pos k6]
  exact tx_other ht hm (.inl (by cases e : hasB x with | false => rfl | true => have := has_kind.1 e; omega)) k5
 rw [if_neg k6]
 by_cases e : id = x.id
 ·
  rw [if_pos e]
  subst e
  have hh : hasB x = true := has_kind.2 (by omega)
  have hof : ofB x.id x = true := by simp [ofB, hh]
  have hend := end_ok ht.com ht.same ht.abr hof h6
  have hcase : x.kind = 1 ∨ x.kind = 2 ∨ x.kind = 3 ∨ x.kind = 4 := by omega
  rcases hcase with c | c | c | c
  ·
   -- begins
   have hcn := com_not (x := x) (by omega) (by omega)
   have hid : x.id = k.most + 1 := by simp [beginsB, c] at h3; omega
   have hb : (k.tx x.id).began = false := by
    cases e : (k.tx x.id).began with
    | false => rfl
    | true => have := (ht.on e).1; omega
   have h0 := ht.off hb
   rw [end_id hcn.1 hcn.2]
   rw [end_id hcn.1 hcn.2] at hend
   have hown : ownTx x (k.tx x.id) = { k.tx x.id with began := true, node := x.node } := by unfold ownTx; rw [if_pos c]
   rw [hown]
   refine ⟨fun h => by simp at h, fun _ => ⟨by rw [if_pos c]; exact Int.le_refl _, (p.length, x), ?_, rfl, .inl ⟨h0.2.1, .inl c, ?_⟩⟩, hend.1, hend.2.1, hend.2.2⟩
   ·
    rw [lastR_snoc, lastStep_own ⟨hh, rfl, by omega⟩]
   rw [setR_snoc, setB_not (.inl (by omega)), Bool.or_false]; exact h0.2.2.1
  ·
   -- asks
   have hcn := com_not (x := x) (by omega) (by omega)
   rw [end_id hcn.1 hcn.2]
   rw [end_id hcn.1 hcn.2] at hend
   have ha : (k.tx x.id).began = true ∧ (k.tx x.id).node = x.node ∧ (k.tx x.id).stand = 0 := by
    simp [asksB, c] at h4; exact ⟨h4.1.1, h4.1.2, h4.2⟩
   have hown : ownTx x (k.tx x.id) = { k.tx x.id with ask := x, stand := 1 } := by unfold ownTx; rw [if_neg (by omega), if_pos c]
   rw [hown]
   obtain ⟨hle, z, hz, hzn, hc⟩ := ht.on ha.1
   have hset : setR p x.id = false := by
    rcases hc with h | h | h | h
    ·
     exact h.2.2
    ·
     omega
    ·
     omega
    omega
   refine ⟨fun h => ?_, fun _ => ⟨by omega, (p.length, x), ?_, ha.2.1.symm, .inr (.inl ⟨rfl, c, rfl, ?_⟩)⟩, hend.1, hend.2.1, hend.2.2⟩
   ·
    have h' : (k.tx x.id).began = false := h
    rw [ha.1] at h'; cases h'
   ·
    rw [lastR_snoc, lastStep_own ⟨hh, rfl, by omega⟩]
   rw [setR_snoc, setB_not (.inl (by omega)), Bool.or_false]; exact hset
  ·
   -- answers
   have ha : (k.tx x.id).stand = 1 ∧ (k.tx x.id).ask.node = x.node := by
    simp [answersB, c] at h5; exact ⟨h5.1.1.1.1.1, h5.1.1.1.1.2⟩
   have hb : (k.tx x.id).began = true := by
    cases e : (k.tx x.id).began with
    | true => rfl
    | false => have := (ht.off e).2.1; omega
   obtain ⟨hle, z, hz, hzn, hc⟩ := ht.on hb
   have hz2 : (k.tx x.id).ask = z.2 ∧ setR p x.id = false := by
    rcases hc with h | h | h | h
    ·
     omega
    ·
     exact h.2.2
    ·
     omega
    omega
   have hown : ownTx x (k.tx x.id) = { k.tx x.id with stand := if x.err = 0 ∧ x.op ≥ 6 then 3 else 0 } := by unfold ownTx; rw [if_neg (by omega), if_neg (by omega), if_pos c]
   have hop : 1 ≤ x.op ∧ x.op ≤ 7 := by
    unfold mayB at h1
    rw [if_neg (by omega), if_neg (by rw [hh]; decide)] at h1
    split at h1
    ·
     cases h1
    rw [if_pos (.inr c)] at h1; simp at h1; exact h1
   have hsb : setB x.id x = decide (x.err = 0 ∧ x.op ≥ 6) := by
    have e1 : comB x = (x.op == 6 && x.err == 0) := by simp [comB, c]
    unfold setB
    rw [e1, c]
    by_cases e0 : x.err = 0
    ·
     by_cases e6 : x.op = 6
     ·
      simp [e0, e6]
     by_cases e7 : x.op = 7
     ·
      simp [e0, e7]
     have : ¬ x.op ≥ 6 := by omega
     simp [e0, e6, e7, this]
    simp [e0]
   have hkeep := endTx_keeps x (ownTx x (k.tx x.id))
   have hend2 := end_ok (t := ownTx x (k.tx x.id)) (p := p) (id := x.id) (x := x) (by rw [hown]; exact ht.com) (by rw [hown]; exact ht.same) (by rw [hown]; exact ht.abr) hof (by rw [hown]; exact h6)
   refine ⟨fun h => ?_, fun _ => ⟨by omega, (p.length, x), ?_, ?_, ?_⟩, hend2.1, hend2.2.1, hend2.2.2⟩
   ·
    rw [hkeep.2.2.1, hown] at h
    have h' : (k.tx x.id).began = false := h
    rw [hb] at h'; cases h'
   ·
    rw [lastR_snoc, lastStep_own ⟨hh, rfl, by omega⟩]
   ·
    rw [hkeep.1, hown]
    show x.node = (k.tx x.id).node
    rw [← ha.2, hz2.1, hzn]
   rw [hkeep.2.1, hkeep.2.2.2, hown, setR_snoc, hz2.2, Bool.false_or, hsb]
   show ((if x.err = 0 ∧ x.op ≥ 6 then (3 : Int) else 0) = 0 ∧ _) ∨ _
   by_cases q : x.err = 0 ∧ x.op ≥ 6
   ·
    rw [decide_eq_true q]; right; right; right; exact ⟨if_pos q, c, rfl⟩
   rw [decide_eq_false q]; left; exact ⟨if_neg q, .inr c, rfl⟩
  -- a status
  have hown : ownTx x (k.tx x.id) = k.tx x.id := by unfold ownTx; rw [if_neg (by omega), if_neg (by omega), if_neg (by omega)]
  rw [hown]
  have hkeep := endTx_keeps x (k.tx x.id)
  have hl : lastR (p ++ [x]) x.id = lastR p x.id := by rw [lastR_snoc, lastStep_other (fun h => h.2.2 c) k5]
  have hs : setR (p ++ [x]) x.id = setR p x.id := by rw [setR_snoc, setB_not (.inl (by omega)), Bool.or_false]
  refine ⟨fun h => ?_, fun h => ?_, hend.1, hend.2.1, hend.2.2⟩
  ·
   rw [hkeep.2.2.1] at h
   rw [hl, hs, hkeep.2.1, hkeep.1]; exact ht.off h
  rw [hkeep.2.2.1] at h
  rw [hl, hs, hkeep.2.1, hkeep.1, hkeep.2.2.2]
  exact ⟨Int.le_trans (ht.on h).1 hm, (ht.on h).2⟩
 rw [if_neg e]
 exact tx_other ht hm (.inr (Ne.symm e)) k5
theorem Inv.step {k : Look} {p : List Ev} {x : Ev} (hk : Inv k p) (hr : ruleL k x = 0) : Inv (seeL k x) (p ++ [x]) := by
 obtain ⟨h1, h2, h3, h4, h5, h6⟩ := rule_all hr
 have hn := may_node h1
 have hb : x.kind = 1 → x.id = k.most + 1 := fun c => by simp [beginsB, c] at h3; omega
 refine ⟨fun n => ?_, ?_, ?_, fun id => tx_step hk hr id⟩
 ·
  show (if x.kind = 5 ∧ n = x.node then true else if x.kind = 6 ∧ n = x.node then false else k.dn n) = !upR (p ++ [x]) n
  rw [upR_snoc, hk.dn n]
  unfold upStep
  by_cases e : n = x.node
  ·
   subst e
   by_cases k5 : x.kind = 5
   ·
    simp [k5]
   by_cases k6 : x.kind = 6
   ·
    simp [k6]
   simp [k5, k6]
  simp [e, Ne.symm e]
 ·
  show (if x.kind = 1 then x.id else k.most) = mostR (p ++ [x])
  rw [mostR_snoc, ← hk.most]
  unfold mostStep
  split
  ·
   rename_i c; have := hb c; omega
  rfl
 show 0 ≤ (if x.kind = 1 then x.id else k.most)
 have := hk.pos
 split
 ·
  rename_i c; have := hb c; omega
 exact this
theorem Inv.fold {l : List Ev} : ∀ {m : List Ev} {k : Look} {p : List Ev} {i : Nat}, Inv k p → findL k m i = none → Inv (m.foldl seeL k) (p ++ m) := by
 intro m
 induction m with
 | nil => intro k p i h _; simpa using h
 | cons x m ih =>
  intro k p i h hf
  unfold findL at hf
  split at hf
  ·
   rename_i hr
   have := ih (h.step hr) hf
   rw [List.append_assoc] at this
   exact this
  cases hf
/-- The first rule that the reference finds broken. -/
def ruleR (ti : Int) (p : List Ev) (x : Ev) : Nat :=
 if mayB ti x = false then 1 else if nodesR p x = false then 2 else if beginsR p x = false then 3
 else if asksR p x = false then 4 else if answersR p x = false then 5 else if agreesR p x = false then 6 else 0
theorem nodes_eq {k : Look} {p : List Ev} (h : Inv k p) (x : Ev) : nodesB k.dn x = nodesR p x := by
 unfold nodesB nodesR
 rw [h.dn]
 by_cases k6 : x.kind = 6
 ·
  rw [if_pos k6, if_pos k6]
 rw [if_neg k6, if_neg k6]
 by_cases k4 : x.kind = 4
 ·
  rw [if_pos k4]; simp [k4]
 rw [if_neg k4]; simp [k4]
theorem asks_eq {k : Look} {p : List Ev} (h : Inv k p) (x : Ev) : asksB (k.tx x.id) x = asksR p x := by
 have ht := h.tx x.id
 unfold asksB asksR
 congr 1
 cases hb : (k.tx x.id).began with
 | false => rw [(ht.off hb).1]; rfl
 | true =>
  obtain ⟨_, z, hz, hzn, hc⟩ := ht.on hb
  rw [hz]
  simp only [hzn, Bool.true_and]
  rcases hc with c | c | c | c
  ·
   rw [c.1, c.2.2]; rcases c.2.1 with e | e <;> simp [e]
  ·
   rw [c.1]; simp [c.2.1]
  ·
   rw [c.1]; simp [c.2]
  rw [c.1, c.2.2]; simp
theorem answers_eq {k : Look} {p : List Ev} (h : Inv k p) (x : Ev) : answersB (k.tx x.id) x = answersR p x := by
 have ht := h.tx x.id
 unfold answersB answersR
 congr 1
 cases hb : (k.tx x.id).began with
 | false => rw [(ht.off hb).1, (ht.off hb).2.1]; rfl
 | true =>
  obtain ⟨_, z, hz, hzn, hc⟩ := ht.on hb
  rw [hz]
  rcases hc with c | c | c | c
  ·
   rw [c.1]; rcases c.2.1 with e | e <;> simp [e]
  ·
   rw [c.1, c.2.2.1]; simp [c.2.1]
  ·
   rw [c.1]; simp [c.2]
  rw [c.1]; simp [c.2.1]
theorem agrees_eq {k : Look} {p : List Ev} (h : Inv k p) (x : Ev) (hx : x.kind ≤ 6) : agreesB (k.tx x.id) x = agreesR p x := by
 have ht := h.tx x.id
 unfold agreesB agreesR
 by_cases hh : hasB x = false
 ·
  rw [if_pos hh]
  have hcn := com_not (x := x) (fun e => by have := (has_kind (x := x)).2 (by omega); rw [hh] at this; cases this) (fun e => by have := (has_kind (x := x)).2 (by omega); rw [hh] at this; cases this)
  symm
  rw [List.all_eq_true]
  intro y hy
  simp [clash, hcn.1, hcn.2]
 rw [if_neg hh]
 by_cases c : comB x = true
 ·
  rw [if_pos c]
  have hnb := com_abr c
  rw [Bool.eq_iff_iff, List.all_eq_true]
  simp only [Bool.and_eq_true, Bool.or_eq_true, Bool.not_eq_true', decide_eq_true_eq, Prod.mk.injEq, beq_iff_eq, ht.com, ht.abr, List.any_eq_false, Bool.not_eq_true]
  constructor
  ·
   intro ⟨h1, h2⟩ y hy
   simp only [clash, c, hnb, Bool.true_and, Bool.false_and, Bool.or_false]
   cases ho : ofB x.id y with
   | false => rfl
   | true =>
    have ha : abrB y = false := by have := h1 y hy; rw [ho] at this; simpa using this
    cases hc : comB y with
    | false => simp [ha]
    | true =>
     have hs := ht.same y hy ho hc
     rcases h2 with h2 | h2
     ·
      have := h2 y hy; rw [ho, hc] at this; simp at this
     simp [ha, hs.1, hs.2.1, hs.2.2, h2.1, h2.2.1, h2.2.2]
  intro h2
  refine ⟨fun y hy => ?_, ?_⟩
  ·
   have := h2 y hy
   simp only [clash, c, hnb, Bool.true_and, Bool.false_and, Bool.or_false] at this
   cases ho : ofB x.id y with
   | false => simp
   | true => rw [ho] at this; simp at this; simpa using this.1
  by_cases hex : ∃ y ∈ p, ofB x.id y = true ∧ comB y = true
  ·
   obtain ⟨y, hy, ho, hc⟩ := hex
   right
   have := h2 y hy
   have hs := ht.same y hy ho hc
   simp only [clash, c, hnb, ho, hc, Bool.true_and, Bool.false_and, Bool.or_false] at this
   simp at this
   omega
  left
  intro y hy
  cases ho : ofB x.id y with
  | false => simp
  | true =>
   cases hc : comB y with
   | false => simp
   | true => exact absurd ⟨y, hy, ho, hc⟩ hex
 rw [if_neg c]
 have c2 : comB x = false := by simpa using c
 by_cases d : abrB x = true
 ·
  rw [if_pos d, ht.com, Bool.eq_iff_iff, List.all_eq_true]
  simp only [clash, c2, d, Bool.false_and, Bool.true_and, Bool.false_or, Bool.not_eq_true', List.any_eq_false, Bool.not_eq_true]
 rw [if_neg d]
 have d2 : abrB x = false := by simpa using d
 symm
 rw [List.all_eq_true]
 intro y hy
 simp [clash, c2, d2]
theorem rule_eq {k : Look} {p : List Ev} (h : Inv k p) (x : Ev) : ruleL k x = ruleR k.ti p x := by
 unfold ruleL ruleR
 rw [nodes_eq h, asks_eq h, answers_eq h]
 have hb : beginsB k.most x = beginsR p x := by unfold beginsB beginsR; rw [h.most]
 rw [hb]
 cases h1 : mayB k.ti x with
 | false => rfl
 | true =>
  rw [agrees_eq h x (may_node h1).2.1]
end Go.Proofs.YtfcbjcohepkkfaaGreat.P

/-
 The reference's order, plain: the same transactions, with the same things, as the program's.
-/
namespace Go.Proofs.YtfcbjcohepkkfaaGreat.P
open Go.Proofs.YtfcbjcohepkkfaaGreat.B
set_option linter.unusedVariables false
set_option linter.unusedSimpArgs false
theorem many_perm {l m : List Tn} (h : l.Perm m) : many l = many m := (h.map _).sum_nat
theorem few_perm {l m : List Tn} (h : l.Perm m) : few l ↔ few m := by unfold few; rw [many_perm h, h.length_eq]
theorem ids_perm {l m : List Tn} (h : l.Perm m) : (ids l).Perm (ids m) := List.Perm.map (f := Tn.id) h
theorem okL_perm {l m : List Tn} (h : l.Perm m) : okL l ↔ okL m := by
 unfold okL
 rw [(ids_perm h).nodup_iff]
 exact and_congr_left fun _ => ⟨fun k d hd => k d (h.mem_iff.2 hd), fun k d hd => k d (h.mem_iff.1 hd)⟩
theorem code_perm {l m : List Tn} (h : l.Perm m) : code l = code m := by
 have h1 := few_perm h
 have h2 := okL_perm h
 unfold code
 by_cases f : few l <;> by_cases g : okL l
 ·
  rw [if_neg (not_not_intro f), if_neg (not_not_intro (h1.1 f)), if_pos g, if_pos (h2.1 g)]
 ·
  rw [if_neg (not_not_intro f), if_neg (not_not_intro (h1.1 f)), if_neg g, if_neg (mt h2.2 g)]
 ·
  rw [if_pos f, if_pos (mt h1.2 f)]
 rw [if_pos f, if_pos (mt h1.2 f)]
def seqOf (ds : List Tn) (o : List Nat) : List Tn := o.map (tAt ds)
theorem range_tAt (ds : List Tn) : (List.range ds.length).map (tAt ds) = ds := by
 apply List.ext_getElem
 ·
  simp
 intro i h1 h2
 simp [tAt, List.getD_eq_getElem?_getD, h2]
theorem seqOf_perm {ds : List Tn} {o : List Nat} (h : IsOrd ds o) : (seqOf ds o).Perm ds := by
 have := h.1.map (tAt ds)
 rwa [range_tAt] at this
theorem seqOf_eq {ds ds2 : List Tn} {o p : List Nat} (h : IsOrd ds o) (k : IsOrd ds2 p) (hp : ds.Perm ds2) : seqOf ds o = seqOf ds2 p := by
 refine List.Perm.eq_of_pairwise (le := less) (fun a b _ _ h1 h2 => absurd h2 (fun h2 => less_asymm h1 h2)) ?_ ?_ ((seqOf_perm h).trans (hp.trans (seqOf_perm k).symm))
 ·
  exact List.pairwise_map.2 h.2
 exact List.pairwise_map.2 k.2
def thingsS (l : List Tn) : List ((Tn × Nat) × Td) := l.flatMap fun t => label t t.l
def who (ds : List Tn) (p : Nat × Nat) : Tn × Nat := (tAt ds p.1, p.2)
theorem things_seq (ds : List Tn) (o : List Nat) : (things ds o).map (fun x => (who ds x.1, x.2)) = thingsS (seqOf ds o) := by
 unfold things thingsS seqOf
 rw [List.map_flatMap, List.flatMap_map]
 congr 1
 funext i
 simp [label, who]
theorem found_eq {ds ds2 : List Tn} {o p : List Nat} (h : IsOrd ds o) (k : IsOrd ds2 p) (hp : ds.Perm ds2) : (found ds o).map (who ds) = (found ds2 p).map (who ds2) := by
 unfold found
 rw [← first_map, ← first_map, things_seq, things_seq, seqOf_eq h k hp]

def endR (l : List Ev) (id : Int) : Option Ev := l.find? fun y => ofB id y && comB y
def didR (id ep : Int) (y : Ev) : Bool := y.kind == 3 && y.id == id && y.epoch == ep && y.err == 0 && decide (y.op ≤ 5)
def endE (l : List Ev) (id : Int) : Ev := (endR l id).getD Ev.zero
/-- A transaction, with all that it did in its last epoch. -/
def gPl (l : List Ev) (id : Int) : Pl := ⟨id, (endE l id).wall, (endE l id).logic, (numd l).filter fun p => didR id (endE l id).epoch p.2⟩
def orderStepR (l : List Ev) (acc : List Pl) (y : Ev) : List Pl := if hasB y && comB y && !(acc.any fun q => decide (q.id = y.id)) then acc ++ [gPl l y.id] else acc
def orderR (l : List Ev) : List Pl := l.foldl (orderStepR l) []
theorem any_id {acc : List Pl} {i : Int} : (acc.any fun q => decide (q.id = i)) = true ↔ i ∈ acc.map (·.id) := by
 rw [List.any_eq_true, List.mem_map]
 simp
/-- What the program's order has, after each event. -/
def fPl (tx : Int → Tx) (p : List Ev) (id : Int) : Pl := ⟨id, (tx id).wall, (tx id).logic, (numd p).filter fun z => z.2.id == id && didB (tx id).epoch z.2⟩
structure OrdIs (tx : Int → Tx) (p : List Ev) (acc : List Pl) : Prop where
 is : ∀ q ∈ acc, q = fPl tx p q.id ∧ (tx q.id).comm = true
 all : ∀ x ∈ p, hasB x = true → (tx x.id).comm = true → x.id ∈ acc.map (·.id)
 only : ∀ q ∈ acc, ∃ x ∈ p, hasB x = true ∧ x.id = q.id
 nod : (acc.map (·.id)).Nodup
theorem didB_has {ep : Int} {x : Ev} (h : didB ep x = true) : hasB x = true := by
 simp [didB] at h
 exact has_kind.2 (by omega)
theorem fPl_snoc (tx : Int → Tx) (p : List Ev) (x : Ev) (id : Int) : fPl tx (p ++ [x]) id = if x.id = id ∧ didB (tx id).epoch x = true then { fPl tx p id with th := (fPl tx p id).th ++ [(p.length, x)] } else fPl tx p id := by
 unfold fPl
 rw [numd_snoc, List.filter_append]
 by_cases h : x.id = id ∧ didB (tx id).epoch x = true
 ·
  rw [if_pos h]; simp [h.1, h.2]
 rw [if_neg h]
 have : (x.id == id && didB (tx id).epoch x) = false := by
  cases e : (x.id == id && didB (tx id).epoch x) with
  | false => rfl
  | true => simp at e; exact absurd e h
 simp [this]
theorem OrdIs.step {tx : Int → Tx} {p : List Ev} {acc : List Pl} (h : OrdIs tx p acc) (x : Ev) : OrdIs tx (p ++ [x]) (ordStep tx acc (p.length, x)) := by
 by_cases hc : hasB x = true ∧ (tx x.id).comm = true
 ·
  -- behind the new one
  have hnew : ∀ q ∈ newPl (tx x.id) x.id acc, q = fPl tx p q.id ∧ (tx q.id).comm = true := by
   intro q hq
   unfold newPl at hq
   split at hq
   ·
    exact h.is q hq
   rename_i hno
   rcases List.mem_append.1 hq with hq | hq
   ·
    exact h.is q hq
   rw [List.mem_singleton] at hq
   subst hq
   refine ⟨?_, hc.2⟩
   show _ = fPl tx p x.id
   unfold fPl
   congr 1
   symm
   rw [List.filter_eq_nil_iff]
   intro z hz hz2
   simp at hz2
   have hzp := List.mem_of_getElem? (numd_mem hz)
   have := h.all z.2 hzp (didB_has hz2.2) (by rw [hz2.1]; exact hc.2)
   rw [hz2.1] at this
   exact hno (any_id.2 this)
  have hids := newPl_mem (t := tx x.id) (i := x.id) h.nod
  have hin : x.id ∈ (newPl (tx x.id) x.id acc).map (·.id) := by
   rw [hids.1]; split
   ·
    assumption
   simp
  have hsub : ∀ i ∈ acc.map (·.id), i ∈ (newPl (tx x.id) x.id acc).map (·.id) := by
   intro i hi; rw [hids.1]; split
   ·
    exact hi
   exact List.mem_append_left _ hi
  have honly : ∀ q ∈ newPl (tx x.id) x.id acc, ∃ y ∈ p ++ [x], hasB y = true ∧ y.id = q.id := by
   intro q hq
   unfold newPl at hq
   split at hq
   ·
    obtain ⟨y, hy, e⟩ := h.only q hq; exact ⟨y, by simp [hy], e⟩
   rcases List.mem_append.1 hq with hq | hq
   ·
    obtain ⟨y, hy, e⟩ := h.only q hq; exact ⟨y, by simp [hy], e⟩
   rw [List.mem_singleton] at hq; subst hq; exact ⟨x, by simp, hc.1, rfl⟩
  have hall : ∀ y ∈ p ++ [x], hasB y = true → (tx y.id).comm = true → y.id ∈ (newPl (tx x.id) x.id acc).map (·.id) := by
   intro y hy h1 h2
   rcases List.mem_append.1 hy with hy | hy
   ·
    exact hsub _ (h.all y hy h1 h2)
   rw [List.mem_singleton] at hy; subst hy; exact hin
  by_cases hd : didB (tx x.id).epoch x = true
  ·
   rw [ordStep_d hc.1 hc.2 hd]
   refine ⟨fun q hq => ?_, by rw [addPl_ids]; exact hall, fun q hq => ?_, by rw [addPl_ids]; exact hids.2⟩
   ·
    unfold addPl at hq
    obtain ⟨z, hz, e⟩ := List.mem_map.1 hq
    have hz2 := hnew z hz
    split at e
    ·
     rename_i hi
     have hi' : z.id = x.id := hi
     subst e
     refine ⟨?_, hz2.2⟩
     show ({ z with th := z.th ++ [(p.length, x)] } : Pl) = fPl tx (p ++ [x]) z.id
     rw [fPl_snoc, if_pos ⟨hi'.symm, by rw [hi']; exact hd⟩, ← hz2.1]
    rename_i hi
    subst e
    refine ⟨?_, hz2.2⟩
    rw [fPl_snoc, if_neg (fun e => hi e.1.symm)]
    exact hz2.1
   unfold addPl at hq
   obtain ⟨z, hz, e⟩ := List.mem_map.1 hq
   have := honly z hz
   split at e <;> subst e <;> exact this
  rw [ordStep_nd hc.1 hc.2 (by simpa using hd)]
  refine ⟨fun q hq => ?_, hall, honly, hids.2⟩
  have hq2 := hnew q hq
  refine ⟨?_, hq2.2⟩
  rw [fPl_snoc, if_neg (fun e => hd (by rw [e.1]; exact e.2))]
  exact hq2.1
 have hno : ordStep tx acc (p.length, x) = acc := ordStep_no (by
  cases e1 : hasB x with
  | false => exact .inl rfl
  | true =>
   cases e2 : (tx x.id).comm with
   | false => exact .inr rfl
   | true => exact absurd ⟨e1, e2⟩ hc)
 rw [hno]
 refine ⟨fun q hq => ?_, fun y hy h1 h2 => ?_, fun q hq => ?_, h.nod⟩
 ·
  have h1 := h.is q hq
  refine ⟨?_, h1.2⟩
  rw [fPl_snoc, if_neg (fun e => hc ⟨didB_has e.2, by rw [e.1]; exact h1.2⟩)]
  exact h1.1
 ·
  rcases List.mem_append.1 hy with hy | hy
  ·
   exact h.all y hy h1 h2
  rw [List.mem_singleton] at hy; subst hy; exact absurd ⟨h1, h2⟩ hc
 obtain ⟨y, hy, e⟩ := h.only q hq; exact ⟨y, by simp [hy], e⟩
theorem ord_is (tx : Int → Tx) (l : List Ev) : OrdIs tx l (ordL tx l) := by
 have : ∀ i, i ≤ l.length → OrdIs tx (l.take i) (ordL tx (l.take i)) := by
  intro i
  induction i with
  | zero => intro _; exact ⟨fun q hq => (by simp [ordL, numd] at hq), fun x hx => (by simp at hx), fun q hq => (by simp [ordL, numd] at hq), by simp [ordL, numd]⟩
  | succ i ih =>
   intro hi
   have hx : l[i]? = some l[i] := List.getElem?_eq_getElem (by omega)
   have h := (ih (by omega)).step l[i]
   rw [take_snoc hx, ← take_snoc hx, ordL_step hx, take_snoc hx]
   rwa [List.length_take, Nat.min_eq_left (by omega)] at h
 have h := this l.length (Nat.le_refl _)
 rwa [List.take_length] at h
structure OrdIsR (l p : List Ev) (acc : List Pl) : Prop where
 is : ∀ q ∈ acc, q = gPl l q.id
 all : ∀ x ∈ p, hasB x = true → comB x = true → x.id ∈ acc.map (·.id)
 only : ∀ q ∈ acc, ∃ x ∈ p, hasB x = true ∧ comB x = true ∧ x.id = q.id
 nod : (acc.map (·.id)).Nodup
theorem OrdIsR.step {l p : List Ev} {acc : List Pl} (h : OrdIsR l p acc) (x : Ev) : OrdIsR l (p ++ [x]) (orderStepR l acc x) := by
 unfold orderStepR
 by_cases hc : (hasB x && comB x && !(acc.any fun q => decide (q.id = x.id))) = true
 ·
  rw [if_pos hc]
  simp only [Bool.and_eq_true, Bool.not_eq_true'] at hc
  have hno : x.id ∉ acc.map (·.id) := fun e => by rw [any_id.2 e] at hc; cases hc.2
  refine ⟨fun q hq => ?_, fun y hy h1 h2 => ?_, fun q hq => ?_, ?_⟩
  ·
   rcases List.mem_append.1 hq with hq | hq
   ·
    exact h.is q hq
   rw [List.mem_singleton] at hq; subst hq; rfl
  ·
   rw [List.map_append]
   rcases List.mem_append.1 hy with hy | hy
   ·
    exact List.mem_append_left _ (h.all y hy h1 h2)
   rw [List.mem_singleton] at hy; subst hy; simp [gPl]
  ·
   rcases List.mem_append.1 hq with hq | hq
   ·
    obtain ⟨y, hy, e⟩ := h.only q hq; exact ⟨y, by simp [hy], e⟩
   rw [List.mem_singleton] at hq; subst hq; exact ⟨x, by simp, hc.1.1, hc.1.2, rfl⟩
  rw [List.map_append, List.nodup_append]
  refine ⟨h.nod, by simp, fun a ha b hb => ?_⟩
  simp [gPl] at hb
  rintro rfl
  subst hb
  exact hno ha
 rw [if_neg hc]
 refine ⟨h.is, fun y hy h1 h2 => ?_, fun q hq => ?_, h.nod⟩
 ·
  rcases List.mem_append.1 hy with hy | hy
  ·
   exact h.all y hy h1 h2
  rw [List.mem_singleton] at hy; subst hy
  cases e : acc.any fun q => decide (q.id = y.id) with
  | true => exact any_id.1 e
  | false => exact absurd (by rw [h1, h2, e]; rfl) hc
 obtain ⟨y, hy, e⟩ := h.only q hq; exact ⟨y, by simp [hy], e⟩
theorem orderR_snoc {l : List Ev} {i : Nat} {x : Ev} (h : l[i]? = some x) : (l.take (i + 1)).foldl (orderStepR l) [] = orderStepR l ((l.take i).foldl (orderStepR l) []) x := by
 rw [take_snoc h, List.foldl_append]; rfl
theorem ordR_at (l : List Ev) : ∀ i, i ≤ l.length → OrdIsR l (l.take i) ((l.take i).foldl (orderStepR l) []) := by
 intro i
 induction i with
 | zero => intro _; exact ⟨fun q hq => (by simp at hq), fun x hx => (by simp at hx), fun q hq => (by simp at hq), by simp⟩
 | succ i ih =>
  intro hi
  have hx : l[i]? = some l[i] := List.getElem?_eq_getElem (by omega)
  rw [orderR_snoc hx, take_snoc hx]
  exact (ih (by omega)).step l[i]
theorem ordR_is (l : List Ev) : OrdIsR l l (orderR l) := by
 have h := ordR_at l l.length (Nat.le_refl _)
 rwa [List.take_length] at h
/-- The two orders have the same transactions. -/
theorem order_perm {k : Look} {l : List Ev} (hk : Inv k l) : (ordL k.tx l).Perm (orderR l) ∧ (∀ q ∈ ordL k.tx l, q = gPl l q.id) ∧ (∀ q ∈ orderR l, q = gPl l q.id) := by
 have h1 := ord_is k.tx l
 have h2 := ordR_is l
 have hf : ∀ id, (k.tx id).comm = true → fPl k.tx l id = gPl l id := by
  intro id hc
  have ht := hk.tx id
  rw [ht.com] at hc
  obtain ⟨y, hy, e⟩ := List.any_eq_true.1 hc
  have he : endE l id ∈ l ∧ (ofB id (endE l id) && comB (endE l id)) = true := by
   unfold endE endR
   cases e2 : l.find? fun y => ofB id y && comB y with
   | none => have := List.find?_eq_none.1 e2 y hy; exact absurd e this
   | some z => exact ⟨List.mem_of_find?_eq_some e2, List.find?_some (p := fun y => ofB id y && comB y) e2⟩
  simp only [Bool.and_eq_true] at he
  obtain ⟨e1, e2, e3⟩ := ht.same _ he.1 he.2.1 he.2.2
  unfold fPl gPl
  rw [e1, e2, e3]
  congr 1
  apply List.filter_congr
  intro z hz
  simp only [didB, didR]
  cases (z.2.id == id) <;> cases (z.2.kind == 3) <;> simp
 have g1 : ∀ q ∈ ordL k.tx l, q = gPl l q.id := fun q hq => by
  have := h1.is q hq
  rw [← hf _ this.2]; exact this.1
 have hids : ((ordL k.tx l).map (·.id)).Perm ((orderR l).map (·.id)) := by
  rw [List.perm_ext_iff_of_nodup h1.nod h2.nod]
  intro id
  constructor
  ·
   intro hi
   obtain ⟨q, hq, rfl⟩ := List.mem_map.1 hi
   have hc := (h1.is q hq).2
   rw [(hk.tx q.id).com] at hc
   obtain ⟨y, hy, e⟩ := List.any_eq_true.1 hc
   simp [ofB] at e
   have := h2.all y hy e.1.1 e.2
   rwa [e.1.2] at this
  intro hi
  obtain ⟨q, hq, rfl⟩ := List.mem_map.1 hi
  obtain ⟨x, hx, a, b, c⟩ := h2.only q hq
  have hc : (k.tx x.id).comm = true := by
   rw [(hk.tx x.id).com]
   exact List.any_eq_true.2 ⟨x, hx, by simp [ofB, a, b]⟩
  have := h1.all x hx a hc
  rwa [c] at this
 refine ⟨?_, g1, h2.is⟩
 have e1 : ordL k.tx l = ((ordL k.tx l).map (·.id)).map (gPl l) := by
  rw [List.map_map]
  conv => lhs; rw [← List.map_id (ordL k.tx l)]
  apply List.map_congr_left
  intro q hq; exact g1 q hq
 have e2 : orderR l = ((orderR l).map (·.id)).map (gPl l) := by
  rw [List.map_map]
  conv => lhs; rw [← List.map_id (orderR l)]
  apply List.map_congr_left
  intro q hq; exact h2.is q hq
 rw [e1, e2]
 exact hids.map _
end Go.Proofs.YtfcbjcohepkkfaaGreat.P

/-
  The reference's answer, plain; that it is the program's.
-/
namespace Go.Proofs.YtfcbjcohepkkfaaGreat.P
open Go.Proofs.YtfcbjcohepkkfaaGreat.B
set_option linter.unusedVariables false
set_option linter.unusedSimpArgs false
/-- The first event at which the reference finds a rule broken; ti: the time ahead of it. -/
def findR (ti : Int) (p : List Ev) : List Ev → Option (Nat × Nat)
  | [] => none
  | x :: m => if ruleR ti p x = 0 then findR x.ti (p ++ [x]) m else some (ruleR ti p x, p.length)
theorem find_eq {m : List Ev} : ∀ {k : Look} {p : List Ev}, Inv k p → findL k m p.length = findR k.ti p m := by
  induction m with
  | nil => intro k p h; rfl
  | cons x m ih =>
    intro k p h
    unfold findL findR
    rw [← rule_eq h]
    by_cases hr : ruleL k x = 0
    · rw [if_pos hr, if_pos hr]
      have := ih (h.step hr)
      rw [List.length_append] at this
      exact this
    · rw [if_neg hr, if_neg hr]
theorem find_eq0 (l : List Ev) : findL (startL l) l 0 = findR (startL l).ti [] l := find_eq (Inv.start l)
def behR (a b : Dn) : Bool := decide (ltS b.wall b.logic a.wall a.logic) || (decide ((a.wall, a.logic) = (b.wall, b.logic)) && decide (a.id > b.id))
def lateB (p : List Ev) (x : Ev) (all : List Dn) : Bool :=
  all.any fun n => x.kind == 1 && n.id == x.id && (p.any fun y => y.kind == 3 && comB y && all.any fun m => m.id == y.id && m.id != x.id && behR m n && touchL (n.l.map (·.t)) (m.l.map (·.t)))
def lateR (all : List Dn) (p : List Ev) : List Ev → Option Nat
  | [] => none
  | x :: m => if lateB p x all then some p.length else lateR all (p ++ [x]) m
def wellR (acc : List Pl) (l : List Ev) (o : List Nat) : Nat × Nat :=
  match (if code (tnsP acc) = 0 then found (tnsP acc) o else none) with
  | some (t, d) => (7, placeOf acc t d)
  | none => match lateR (dnsP acc) [] l with | some i => (8, i) | none => (0, 0)
def resR (l : List Ev) (well : Bool) (o : List Nat) : Nat × Nat :=
  match findR (startL l).ti [] l with
  | some p => p
  | none => if well then wellR (orderR l) l o else (0, 0)
theorem knF_is {ds : List Dn} (hn : (ds.map (·.id)).Nodup) {d : Dn} (hd : d ∈ ds) : knF ds d.id = some d := by
  have : ∀ (ds : List Dn) (o : Option Dn), (ds.map (·.id)).Nodup → ((d ∈ ds) ∨ (o = some d ∧ ∀ z ∈ ds, z.id ≠ d.id)) → ds.foldl (fun o z => if z.id = d.id then some z else o) o = some d := by
    intro ds
    induction ds with
    | nil => intro o _ h; rcases h with h | h
             · cases h
             · exact h.1
    | cons z ds ih =>
      intro o hn h
      rw [List.map_cons, List.nodup_cons] at hn
      refine ih _ hn.2 ?_
      rcases h with h | h
      · rcases List.mem_cons.1 h with rfl | h
        · right
          refine ⟨if_pos rfl, fun y hy e => hn.1 (List.mem_map.2 ⟨y, hy, e⟩)⟩
        · exact .inl h
      · right
        have h1 := h.2 z (by simp)
        exact ⟨by show (if z.id = d.id then some z else o) = some d; rw [if_neg h1]; exact h.1, fun y hy => h.2 y (by simp [hy])⟩
  exact this ds none hn (.inl hd)
theorem beh_self (a : Dn) : behT a a = false := by
  unfold behT
  have h1 : ¬ ltS a.wall a.logic a.wall a.logic := by unfold ltS; omega
  have h2 : ¬ (a.id > a.id) := by omega
  rw [decide_eq_false h1, decide_eq_false h2]; simp
theorem beh_eq (a b : Dn) : behT a b = (behR b a && touchL (a.l.map (·.t)) (b.l.map (·.t))) := by
  unfold behT behR
  congr 2
  congr 1
  exact decide_eq_decide.2 ⟨Eq.symm, Eq.symm⟩
/-- The rule 8, at one event. -/
theorem bad_eq {all : List Dn} (hn : (all.map (·.id)).Nodup) {p : List Ev} (hc : ∀ y ∈ p, y.kind = 3 → comB y = true → ∃ d ∈ all, d.id = y.id) (x : Ev) : badL (knF all) (p.flatMap (tolds (knF all))) x = lateB p x all := by
  rw [Bool.eq_iff_iff]
  unfold badL lateB
  simp only [Bool.and_eq_true, beq_iff_eq, List.any_eq_true, bne_iff_ne, ne_eq]
  constructor
  · rintro ⟨h1, h2⟩
    cases e : knF all x.id with
    | none => rw [e] at h2; cases h2
    | some a =>
      rw [e] at h2
      obtain ⟨b, hb, hbeh⟩ := List.any_eq_true.1 h2
      obtain ⟨y, hy, hyb⟩ := List.mem_flatMap.1 hb
      unfold tolds at hyb
      split at hyb
      · rename_i hk
        simp only [Bool.and_eq_true, beq_iff_eq] at hk
        obtain ⟨d, hd, hdi⟩ := hc y hy hk.1 hk.2
        have hkn := knF_is hn hd
        rw [hdi] at hkn
        rw [hkn, List.mem_singleton] at hyb
        have hbd : b = d := hyb
        subst hbd
        have ha := knF_mem e
        refine ⟨a, ha.1, ⟨h1, ha.2⟩, y, hy, ⟨hk.1, hk.2⟩, b, hd, ⟨⟨hdi, fun e3 => ?_⟩, ?_⟩, ?_⟩
        · have h5 : knF all b.id = some b := knF_is hn hd
          rw [e3, e] at h5
          have h6 : a = b := Option.some.inj h5
          rw [h6, beh_self] at hbeh; cases hbeh
        · rw [beh_eq, Bool.and_eq_true] at hbeh; exact hbeh.1
        · rw [beh_eq, Bool.and_eq_true] at hbeh; exact hbeh.2
      · cases hyb
  · rintro ⟨a, ha, ⟨h1, h2⟩, y, hy, ⟨h3, h4⟩, b, hb, ⟨⟨h5, h6⟩, h7⟩, h8⟩
    refine ⟨h1, ?_⟩
    have e := knF_is hn ha
    rw [h2] at e
    rw [e]
    refine List.any_eq_true.2 ⟨b, List.mem_flatMap.2 ⟨y, hy, ?_⟩, by rw [beh_eq, h7, h8]; rfl⟩
    have e2 := knF_is hn hb
    rw [h5] at e2
    unfold tolds
    rw [if_pos (by rw [h3, h4]; rfl), e2]
    simp
theorem late_eq {all : List Dn} (hn : (all.map (·.id)).Nodup) {m : List Ev} : ∀ {p : List Ev}, (∀ y ∈ p ++ m, y.kind = 3 → comB y = true → ∃ d ∈ all, d.id = y.id) → lateL (knF all) (p.flatMap (tolds (knF all))) m p.length = lateR all p m := by
  induction m with
  | nil => intro p h; rfl
  | cons x m ih =>
    intro p h
    unfold lateL lateR
    rw [bad_eq hn (fun y hy => h y (by simp [hy])) x]
    split
    · rfl
    · have := ih (p := p ++ [x]) (fun y hy => h y (by simpa using hy))
      rw [List.flatMap_append, List.length_append] at this
      simpa using this
theorem place_eq {l : List Ev} {acc : List Pl} (hg : ∀ q ∈ acc, q = gPl l q.id) {t d : Nat} (ht : t < acc.length) : placeOf acc t d = (((gPl l (tAt (tnsP acc) t).id).th)[d]?.map (·.1)).getD 0 := by
  have h1 : acc[t]? = some acc[t] := List.getElem?_eq_getElem ht
  have h2 : (tAt (tnsP acc) t).id = acc[t].id := by
    unfold tAt tnsP
    rw [List.getD_eq_getElem?_getD, List.getElem?_map, h1]; rfl
  unfold placeOf
  rw [h1, h2, ← hg acc[t] (List.getElem_mem ht)]
  rfl
theorem lateR_perm {all es : List Dn} (hp : all.Perm es) (m : List Ev) : ∀ p, lateR all p m = lateR es p m := by
  have hb : ∀ p x, lateB p x all = lateB p x es := by
    intro p x
    have ha : ∀ (f : Dn → Bool), all.any f = es.any f := fun f => by
      rw [Bool.eq_iff_iff, List.any_eq_true, List.any_eq_true]
      exact ⟨fun ⟨z, hz, h⟩ => ⟨z, hp.mem_iff.1 hz, h⟩, fun ⟨z, hz, h⟩ => ⟨z, hp.mem_iff.2 hz, h⟩⟩
    unfold lateB
    rw [ha]
    congr 1
    funext n
    congr 2
    funext y
    rw [ha]
  induction m with
  | nil => intro p; rfl
  | cons x m ih => intro p; unfold lateR; rw [hb, ih]
/-- The program's answer is the reference's. -/
theorem res_eq {l : List Ev} {well : Bool} {o1 o2 : List Nat}
    (h1 : code (tnsP (ordL (txsL l) l)) = 0 → well = true → findL (startL l) l 0 = none → IsOrd (tnsP (ordL (txsL l) l)) o1)
    (h2 : code (tnsP (orderR l)) = 0 → well = true → findR (startL l).ti [] l = none → IsOrd (tnsP (orderR l)) o2) : resF l well o1 = resR l well o2 := by
  unfold resF resR
  rw [← find_eq0] at h2 ⊢
  cases hf : findL (startL l) l 0 with
  | some p => rfl
  | none =>
    cases well with
    | false => rfl
    | true =>
      simp only [if_true]
      have hk : Inv (l.foldl seeL (startL l)) l := by
        have := Inv.fold (l := l) (Inv.start l) hf
        simpa using this
      obtain ⟨hp, g1, g2⟩ := order_perm hk
      have hp' : (ordL (txsL l) l).Perm (orderR l) := hp
      have hT : (tnsP (ordL (txsL l) l)).Perm (tnsP (orderR l)) := hp'.map _
      have hD : (dnsP (ordL (txsL l) l)).Perm (dnsP (orderR l)) := hp'.map _
      have hcode := code_perm hT
      have hids : (((dnsP (ordL (txsL l) l))).map (·.id)).Nodup := by
        have : (dnsP (ordL (txsL l) l)).map (·.id) = (ordL (txsL l) l).map (·.id) := by unfold dnsP; rw [List.map_map]; rfl
        rw [this]; exact ordL_ids _ _
      have hlate : lateL (knF (dnsP (ordL (txsL l) l))) [] l 0 = lateR (dnsP (orderR l)) [] l := by
        rw [← lateR_perm hD]
        refine late_eq hids (p := []) (fun y hy h3 hc => ?_)
        have ho := ord_is (txsL l) l
        have hyl : y ∈ l := by simpa using hy
        have hcm : (txsL l y.id).comm = true := by
          show ((l.foldl seeL (startL l)).tx y.id).comm = true
          rw [(hk.tx y.id).com]
          exact List.any_eq_true.2 ⟨y, hyl, by simp [ofB, hc, hasB, h3]⟩
        have := ho.all y hyl (by simp [hasB, h3]) hcm
        obtain ⟨q, hq, e⟩ := List.mem_map.1 this
        exact ⟨_, List.mem_map.2 ⟨q, hq, rfl⟩, e⟩
      unfold wellF wellR
      rw [← hcode, hlate]
      by_cases hc : code (tnsP (ordL (txsL l) l)) = 0
      · rw [if_pos hc, if_pos hc]
        have i1 := h1 hc rfl hf
        have i2 := h2 (hcode ▸ hc) rfl hf
        have hfe := found_eq i1 i2 hT
        cases e1 : found (tnsP (ordL (txsL l) l)) o1 with
        | none =>
          rw [e1] at hfe
          cases e2 : found (tnsP (orderR l)) o2 with
          | none => rfl
          | some q => rw [e2] at hfe; cases hfe
        | some q =>
          rw [e1] at hfe
          cases e2 : found (tnsP (orderR l)) o2 with
          | none => rw [e2] at hfe; cases hfe
          | some q2 =>
            rw [e2] at hfe
            obtain ⟨t, d⟩ := q
            obtain ⟨t2, d2⟩ := q2
            simp only [Option.map_some, Option.some.injEq, who, Prod.mk.injEq] at hfe
            have b1 := (found_at e1 i1).1
            have b2 := (found_at e2 i2).1
            simp only [tnsP, List.length_map] at b1 b2
            show ((7 : Nat), placeOf (ordL (txsL l) l) t d) = (7, placeOf (orderR l) t2 d2)
            have g1' : ∀ q ∈ ordL (txsL l) l, q = gPl l q.id := g1
            rw [place_eq g1' b1, place_eq g2 b2, hfe.1, hfe.2]
      · rw [if_neg hc, if_neg hc]; rfl
end Go.Proofs.YtfcbjcohepkkfaaGreat.P
