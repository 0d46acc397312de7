import Derived.Test.YtagbmfdheppmoaaGreatDoorVmD
/-
  That the machine's code is the model's.
-/
namespace Go.Proofs.YtagbmfdheppmoaaGreatDoor.Vm
set_option linter.unusedVariables false
set_option linter.unusedSimpArgs false
set_option linter.unusedSectionVars false
open Go.RowKit Go.Proofs.YtagbmfdheppmoaaGreatDoor.Sep
noncomputable section
variable [Vl]
def FW (ro : Option Nat) : Fence := { Fence.wide with round := ro }
/-- What is promised of an outcome. -/
def Post (r : Re) (B : Nat) (ρ : Pl) (w : World) (N : Nat) (Q : Exit → Act → World → Prop) : Prop := match r with
  | .norm E H n => ∀ ρ' a' w', Tr ρ w ρ' w' → HS ρ' H n w' → HE ρ' a' N E → Mk B ρ' w' a'.defers → Q .normal a' w'
  | .exit id E H n => ∀ ρ' a' w', Tr ρ w ρ' w' → HS ρ' H n w' → HE ρ' a' N E → Mk B ρ' w' a'.defers → Q (.exit id) a' w'
  | .ret E H n => ∀ ρ' a' w', Tr ρ w ρ' w' → HS ρ' H n w' → HE ρ' a' N E → Mk B ρ' w' a'.defers → Q .ret a' w'
  | .bad _ => False
/-- The world has grown, and what was there is as it was. -/
structure Gx (w w' : World) : Prop where
  ext : Ext w w'
  old : ∀ g, g < w.heap.size → w'.heap[g]? = w.heap[g]?
/-- What is known of calls is so. -/
def RuleOk (P : Program) : Prop := ∀ (f : FuncId) (args : List V) (v : V), Vl.rule f args = some v → ∀ (ρ : Pl) (Args : List Value) (w : World) (m : Nat), DL ρ args Args → CallsIn (FW none) m P f Args.toArray w fun e w' => ∃ x, e = .returned x ∧ Den ρ v x ∧ Gx w w'
/-- Code that is carried out so is the model's. -/
def Claim (P : Program) (ih : X) : Prop := RuleOk P ∧ ∀ (N : Nat) (c : Code) (E : En) (H : T) (n : Nat) (ro : Option Nat) (m B : Nat) (ρ : Pl) (a : Act) (w : World) (Q : Exit → Act → World → Prop),
  (ro = none ∨ noRf c = true) → HS ρ H n w → HE ρ a N E → Mk B ρ w a.defers → Post (ih N c E H n) B ρ w N Q → c.wpIn (FW ro) m P Q a w
def dstV (v : Option V) : V := match v with | some v => v | none => unV
def crO (o : Oper) (x : Out) : Cr := match x with | some (v, H, n) => .ok (dstV v) H n | none => .bad (.op o)
def opX (ih : X) (P : Program) (E : En) (H : T) (n : Nat) (o : Oper) : Cr := match o.op with
  | .defer _ => .bad (.op o)
  | .call c => (match c.callee with
    | .value f => (match evV E f with
      | some (.fn (.func g) l1 l3) => (match evL E c.args.toList with
        | some l2 => (match funT P g with
          | some _ => (match Vl.rule g (app (app l1 l2) l3) with | some v => .ok v H n | none => callV ih P g (app (app l1 l2) l3) H n)
          | none => extV P g (app (app l1 l2) l3) H n)
        | none => .bad (.op o))
      | some (.yld b) => (match evL E c.args.toList with
        | some l2 => yieldV ih b l2 H n
        | none => .bad (.op o))
      | _ => .bad (.op o))
    | _ => crO o (opV P E H n o))
  | _ => crO o (opV P E H n o)
def opsR (ih : X) (P : Program) (N : Nat) (all l : List Oper) : En → T → Nat → Re := List.rec (motive := fun _ => En → T → Nat → Re) (fun E H n => .norm E H n)
  (fun o _ k E H n => match inN N o.dst with
    | true => (match guardV all E o with
      | some true => (match opX ih P E H n o with
        | .ok v H' n' => k (setD o.dst v E) H' n'
        | .bad y => .bad y)
      | some false => k (setD o.dst unV E) H n
      | none => .bad (whyG all E o))
    | false => .bad (.op o)) l
section
variable {P : Program} {ih : X} {w : World} {ρ : Pl} {H : T} {n : Nat} {a : Act} {N : Nat} {E : En} {o : Oper} {Q : Exit → Act → World → Prop}
theorem Post.shift {r : Re} {B : Nat} {ρ1 : Pl} {w1 : World} (h : Post r B ρ w N Q) (t : Tr ρ w ρ1 w1) : Post r B ρ1 w1 N Q := by
  cases r with
  | norm E H n => exact fun ρ' a' w' t' => h ρ' a' w' (t.trans t')
  | exit id E H n => exact fun ρ' a' w' t' => h ρ' a' w' (t.trans t')
  | ret E H n => exact fun ρ' a' w' t' => h ρ' a' w' (t.trans t')
  | bad y => exact h
theorem den_un (ρ : Pl) : Den ρ unV undef := by
  exact (DL.nil (ρ := ρ)).tup
theorem HE.set (h : HE ρ a N E) {d : Option Tmp} {v : V} {x : Value} (hd : inN N d = true) (k : Den ρ v x) : HE ρ (a.put d x) N (setD d v E) := by
  cases d with
  | none => exact h
  | some d => exact h.put (blt_lt hd) k
theorem put_defers (a : Act) (d : Option Tmp) (x : Value) : (a.put d x).defers = a.defers := by cases d <;> rfl
theorem funT_spec {g : FuncId} {fn : Func} {c : Code} (h : funT P g = some (fn, c)) : P.funcs[g]? = some fn ∧ fn.body = some c ∧ ∀ args w, (callFunc g args).run P w = .ok (.enter g args) w := by
  unfold funT at h
  split at h
  · rename_i fn' h1
    split at h
    · rename_i h2
      split at h
      · rename_i c' h3
        cases h
        have hf : P.funcs[g]? = some fn := by rw [nth_eq] at h1; simpa using h1
        refine ⟨hf, h3, fun args w => ?_⟩
        have hb : fn.body.isNone = false := by rw [h3]; rfl
        have h2' : ¬ (fn.name = "runtime.NumGoroutine") := by intro e; rw [e] at h2; simp at h2
        have h3' : ¬ (fn.body = none) := by rw [h3]; simp
        simp [callFunc, hf, h2', h3']
      · cases h
    · cases h
  · cases h
theorem env_of : ∀ {l : List V} {L : List Value} (k : Nat), DL ρ l L → ∀ t v, look (envOf l k) t = some v → ∃ x, k ≤ t ∧ L[t - k]? = some x ∧ Den ρ v x
  | [], L, k, d, t, v, h => by
    have h : look E0 t = some v := h
    rw [look_E0] at h; cases h
  | y :: l, L, k, d, t, v, h => by
    obtain ⟨z, Zs, rfl, d1, d2⟩ := d.inv
    have h : look (setE (envOf l (k + 1)) k y) t = some v := h
    rcases look_set h with ⟨e1, e2⟩ | ⟨e1, e2⟩
    · subst e1
      subst e2
      exact ⟨z, Nat.le_refl _, by simp, d1⟩
    · obtain ⟨x, h1, h2, h3⟩ := env_of (k + 1) d2 t v e2
      refine ⟨x, by omega, ?_, h3⟩
      rw [show t - k = (t - (k + 1)) + 1 by omega, List.getElem?_cons_succ]
      exact h2
theorem enter_HE {l : List V} {L : List Value} (d : DL ρ l L) (h : L.length ≤ N) : HE ρ { tmps := L.toArray ++ Array.replicate (N - L.toArray.size) undef, defers := [] } N (envOf l 0) := by
  refine ⟨by simp; omega, fun t v e => ?_⟩
  obtain ⟨x, _, h2, h3⟩ := env_of 0 d t v e
  refine ⟨x, ?_, h3⟩
  rw [Nat.sub_zero] at h2
  have hlt : t < L.toArray.size := by have := (List.getElem?_eq_some_iff.1 h2).1; simpa using this
  show (L.toArray ++ Array.replicate (N - L.toArray.size) undef)[t]? = some x
  rw [Array.getElem?_append_left hlt]
  simpa using h2
/-! ### results -/
theorem resV_run (hs : HS ρ H n w) (he : HE ρ a N E) {r : ResultVar} {v : V} (h : resV P E H r = some v) : ∃ x, Den ρ v x ∧ ∀ w', (∀ g, (∃ b, ρ b = some g) → w'.heap[g]? = w.heap[g]?) → (Sep.resV a.tmps r).run P w' = .ok x w' := by
  cases r with
  | tmp t =>
    obtain ⟨x, e, d⟩ := he.get t v h
    refine ⟨x, d, fun w' _ => ?_⟩
    show Result.ok (a.tmps.getD t undef) w' = _
    simp only [Array.getD_eq_getD_getElem?, e, Option.getD_some]
  | cell t ty =>
    have h' : loadV P H ty (evV E (.tmp t)) = some v := h
    unfold loadV at h'
    split at h'
    · rename_i b f e
      obtain ⟨g, hg, hx⟩ := den_ptr (evV_den he e)
      have hx' : a.tmps.getD t undef = .pointer (some ⟨g, f, none⟩) := hx
      split at h'
      · rename_i cs hb
        obtain ⟨Cs, R, t', fz, hw, d, hsz⟩ := mem_at hs hb hg
        split at h'
        · rename_i ha
          rw [nth_eq] at h'
          obtain ⟨r, e1, d1⟩ := d.get h'
          refine ⟨r, d1, fun w' ho => ?_⟩
          have hc := cell_of ((ho g ⟨b, hg⟩).trans hw) f
          rw [List.getElem?_append_left (List.getElem?_eq_some_iff.1 e1).1, e1] at hc
          simp [Sep.resV, hx', asAddr, loadVar, still_run ha, load, Sem.run, hc]
        · rename_i ha
          split at h'
          · rename_i k hk
            cases hb2 : Nat.ble (Nat.add f k) (len cs) with
            | false => rw [hb2] at h'; cases h'
            | true =>
              rw [hb2] at h'
              cases h'
              have h1 : f + k ≤ cs.length := by have := Nat.le_of_ble_eq_true hb2; rwa [len_eq] at this
              rw [d.1] at h1
              refine ⟨.agg ((Cs.drop f).take k).toArray, by rw [takeN_eq, dropN_eq]; exact ((d.drop f).take k).agg, fun w' ho => ?_⟩
              have hl := cells_run (P := P) ((ho g ⟨b, hg⟩).trans hw) h1
              simp [Sep.resV, hx', asAddr, loadVar, still_run ha, sz_run hk, hl]
          · cases h'
        · cases h'
      · cases h'
    · cases h'
theorem mapM_run {rs : List ResultVar} (hs : HS ρ H n w) (he : HE ρ a N E) : ∀ {l : List V}, oall (resV P E H) rs = some l → ∃ xs : List Value, DL ρ l xs ∧ ∀ w', (∀ g, (∃ b, ρ b = some g) → w'.heap[g]? = w.heap[g]?) → (rs.mapM (Sep.resV a.tmps)).run P w' = .ok xs w' := by
  induction rs with
  | nil => intro l h; have : [] = l := Option.some.inj h; subst this; exact ⟨[], .nil, fun w' _ => by simp⟩
  | cons r rs ih =>
    intro l h
    obtain ⟨y, ys, h1, h2, rfl⟩ := oall_cons h
    obtain ⟨x, d, hx⟩ := resV_run hs he h1
    obtain ⟨xs, ds, hxs⟩ := ih h2
    exact ⟨x :: xs, .cons d ds, fun w' ho => by simp [hx w' ho, hxs w' ho]⟩
theorem res_run (hs : HS ρ H n w) (he : HE ρ a N E) {fn : Func} {v : V} (h : resL P E H fn.results.toList = some v) : ∃ x, Den ρ v x ∧ ∀ w', (∀ g, (∃ b, ρ b = some g) → w'.heap[g]? = w.heap[g]?) → (results fn a.tmps).run P w' = .ok x w' := by
  unfold resL at h
  split at h
  · rename_i l hl
    obtain ⟨xs, ds, hx⟩ := mapM_run hs he hl
    have hm : ∀ w', (∀ g, (∃ b, ρ b = some g) → w'.heap[g]? = w.heap[g]?) → (fn.results.mapM (Sep.resV a.tmps)).run P w' = .ok xs.toArray w' := by
      intro w' ho
      have := hx w' ho
      have e : fn.results.mapM (Sep.resV a.tmps) = List.toArray <$> fn.results.toList.mapM (Sep.resV a.tmps) := by rw [Array.mapM_eq_mapM_toList]
      rw [e]
      simp [this]
    split at h
    · rename_i v'
      cases h
      obtain ⟨x, As, rfl, d1, d2⟩ := ds.inv
      have := d2.inv0
      subst this
      refine ⟨x, d1, fun w' ho => ?_⟩
      rw [results_eq]
      simp [hm w' ho]
    · rename_i l' hne
      cases h
      refine ⟨.tuple xs.toArray, ds.tup, fun w' ho => ?_⟩
      rw [results_eq]
      have hl1 : ¬ (xs.toArray.size = 1) := by
        intro e
        have e2 : l.length = 1 := by rw [ds.1]; simpa using e
        match l, e2 with
        | [y], _ => exact hne y rfl
      simp only [Sem.run_bind, hm w' ho, Result.andThen]
      simp only [List.size_toArray] at hl1
      simp [hl1]
  · cases h
end
end
end Go.Proofs.YtagbmfdheppmoaaGreatDoor.Vm
