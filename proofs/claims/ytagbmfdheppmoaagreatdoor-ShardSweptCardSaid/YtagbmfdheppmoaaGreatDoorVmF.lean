import Derived.Test.YtagbmfdheppmoaaGreatDoorVmV
/-
  Calls, lists of operations, code: the machine is the model's.
-/
namespace Go.Proofs.YtagbmfdheppmoaaGreatDoor.Vm
set_option linter.unusedVariables false
set_option linter.unusedSimpArgs false
set_option linter.unusedSectionVars false
open Go.RowKit Go.Proofs.YtagbmfdheppmoaaGreatDoor.Sep
noncomputable section
variable [Vl]
section
variable {P : Program} {ih : X} {w : World} {ρ : Pl} {H : T} {n : Nat} {a : Act} {N : Nat} {E : En} {o : Oper} {Q : Exit → Act → World → Prop}
/-- What a call leaves. -/
def CallR (ρ : Pl) (w : World) (v : V) (H' : T) (n' : Nat) : Ending → World → Prop := fun e w' => ∃ ρ' x, e = .returned x ∧ Tr ρ w ρ' w' ∧ HS ρ' H' n' w' ∧ Den ρ' v x
theorem leave_in {m : Nat} {fn : Func} {v : V} {E' : En} {H' : T} {n' : Nat} (h : resL P E' H' fn.results.toList = some v) {ρ' : Pl} {a' : Act} {w' : World} (tr : Tr ρ w ρ' w') (hs : HS ρ' H' n' w') (he : HE ρ' a' N E') (mk : Mk w.heap.size ρ' w' a'.defers) :
    LeavesInM (FW none) m P fn a'.tmps (CallR ρ w v H' n') a'.defers .returning w' := by
  obtain ⟨x, d, hres⟩ := res_run hs he h
  obtain ⟨rs, h1, h2, h3⟩ := mk.ok
  rw [h1]
  refine leaves_marks (B := w.heap.size) hres rs w' h2 (fun r hr => ⟨(h3 r hr).1, (h3 r hr).2.1.2, (h3 r hr).2.2⟩) (fun g _ => rfl) (Ext.refl w') (fun g _ => rfl) hs fun w2 k1 k2 k3 => ?_
  exact ⟨ρ', x, rfl, ⟨tr.le, tr.ext.trans k2, fun g hg => ⟨(k1 g hg.1).trans (tr.out g hg).1, Nat.lt_of_lt_of_le (tr.out g hg).2.1 k2.size, (tr.out g hg).2.2⟩⟩, k3, d⟩
theorem call_in (hc : Claim P ih) (hs : HS ρ H n w) {g : FuncId} {args : List V} {Args : List Value} (d : DL ρ args Args) {v : V} {H' : T} {n' : Nat} (h : callV ih P g args H n = .ok v H' n') (m : Nat) :
    CallsIn (FW none) m P g Args.toArray w (CallR ρ w v H' n') := by
  unfold callV at h
  split at h
  · rename_i fn c hf
    obtain ⟨f1, f2, _⟩ := funT_spec hf
    split at h
    · rename_i hle
      have hle := Nat.le_of_ble_eq_true hle
      rw [len_eq, d.1] at hle
      refine callsIn_of_wp_marks f1 f2 trivial (hc.2 fn.ntmps c (envOf args 0) H n none m w.heap.size ρ _ w _ (.inl rfl) hs (enter_HE d hle) (Mk.nil ρ w) ?_)
      generalize ih fn.ntmps c (envOf args 0) H n = r at h
      cases r with
      | norm E1 H1 n1 =>
        simp only [leaveV] at h
        split at h
        · rename_i v' hv
          cases h
          exact fun ρ' a' w' tr hs' he' mk' => leave_in hv tr hs' he' mk'
        · cases h
      | ret E1 H1 n1 =>
        simp only [leaveV] at h
        split at h
        · rename_i v' hv
          cases h
          exact fun ρ' a' w' tr hs' he' mk' => leave_in hv tr hs' he' mk'
        · cases h
      | exit id E1 H1 n1 => cases h
      | bad y => cases h
    · cases h
  · cases h
theorem ext_run {g : FuncId} {args : List V} {Args : List Value} (d : DL ρ args Args) {v : V} {H' : T} {n' : Nat} (h : extV P g args H n = .ok v H' n') : H' = H ∧ n' = n ∧ ∃ r, Den ρ v r ∧ ∀ w, (callFunc g Args.toArray).run P w = .ok (.value r) w := by
  unfold extV at h
  split at h
  · rename_i l hl
    have : Args = l := by
      clear h
      induction args generalizing Args l with
      | nil => have : [] = l := Option.some.inj hl; subst this; exact d.inv0
      | cons x xs ihx =>
        obtain ⟨y, ys, h1, h2, rfl⟩ := oall_cons hl
        obtain ⟨z, Zs, rfl, d1, d2⟩ := d.inv
        rw [toV_den h1 d1, ihx d2 _ h2]
    subst this
    split at h
    · rename_i r hr
      split at h
      · rename_i v' hv
        cases h
        exact ⟨rfl, rfl, r, ofV_den hv, fun w => still_run hr w⟩
      · cases h
    · cases h
  · cases h
/-! ### a round of a loop over a function -/
theorem setPs_HE {N : Nat} : ∀ {ps : List Nat} {vs : List V} {Vs : List Value} {E E1 : En} {tmps : Array Value}, HE ρ { tmps := tmps, defers := [] } N E → DL ρ vs Vs → setPs N ps vs E = some E1 →
    ps.length = Vs.length ∧ HE ρ { tmps := (ps.zip Vs).foldl (fun tmps (t, a) => tmps.setIfInBounds t a) tmps, defers := [] } N E1
  | [], [], Vs, E, E1, tmps, he, d, h => by
    have : E = E1 := Option.some.inj h
    subst this
    rw [d.inv0]; exact ⟨rfl, he⟩
  | [], _ :: _, Vs, E, E1, tmps, he, d, h => by cases h
  | p :: ps, [], Vs, E, E1, tmps, he, d, h => by cases h
  | p :: ps, v :: vs, Vs, E, E1, tmps, he, d, h => by
    have e : setPs N (p :: ps) (v :: vs) E = (match Nat.blt p N with | true => setPs N ps vs (setE E p v) | false => none) := rfl
    rw [e] at h
    obtain ⟨z, Zs, rfl, d1, d2⟩ := d.inv
    split at h
    · rename_i hb
      have he2 := he.put (blt_lt hb) d1
      obtain ⟨h1, h2⟩ := setPs_HE he2 d2 h
      exact ⟨by simp [h1], h2⟩
    · cases h
theorem zip_fold (ps : Array Nat) (Vs : List Value) (tmps : Array Value) : (ps.zip Vs.toArray).foldl (fun tmps (t, a) => tmps.setIfInBounds t a) tmps = (ps.toList.zip Vs).foldl (fun tmps (t, a) => tmps.setIfInBounds t a) tmps := by
  rw [← Array.foldl_toList, Array.toList_zip]
theorem loop_at (hs : HS ρ H n w) {b : Nat} {st : Nat} {pd : Option Code} {N : Nat} {E : En} {ps : List Nat} {sg bd : Code} (h : get H b = .loop st pd N E ps sg bd) : ∃ l, ρ b = some l ∧ ∃ (fn : FuncId) (tmps : Array Value) (df : Nat), w.heap[l]? = some (.loop { state := stOf st, pending := pd, fn := fn, tmps := tmps, params := ps.toArray, assign := sg, body := bd, defers := df }) ∧ HE ρ { tmps := tmps, defers := [] } N E := by
  obtain ⟨g, e, l⟩ := hs.obj b (by rw [h]; simp)
  rw [h] at l
  exact ⟨g, e, l⟩
/-- A loop's record becomes another one. -/
theorem HS.loop (hs : HS ρ H n w) {b l : Nat} {N : Nat} {E : En} {fn : FuncId} {tmps : Array Value} {df : Nat} {ps : List Nat} {sg bd : Code} (hb : get H b ≠ .no) (hl : ρ b = some l) (hlt : l < w.heap.size) (he : HE ρ { tmps := tmps, defers := [] } N E) (st : Nat) (pd : Option Code) :
    HS ρ (put H b (.loop st pd N E ps sg bd)) n (w.putObj l (.loop { state := stOf st, pending := pd, fn := fn, tmps := tmps, params := ps.toArray, assign := sg, body := bd, defers := df })) ∧ Tr ρ w ρ (w.putObj l (.loop { state := stOf st, pending := pd, fn := fn, tmps := tmps, params := ps.toArray, assign := sg, body := bd, defers := df })) := by
  have hch := HR.change hs (b := b) (g := l) (x := .loop st pd N E ps sg bd) (w' := w.putObj l (.loop { state := stOf st, pending := pd, fn := fn, tmps := tmps, params := ps.toArray, assign := sg, body := bd, defers := df })) hb hl ⟨fn, tmps, df, World.putObj_heap_same hlt, he⟩ (fun k hk => World.putObj_heap_other hk) ⟨rfl, rfl, rfl, by simp, Nat.le_refl _⟩
  exact ⟨hch.self, hch.tr (Le.refl ρ)⟩
theorem endR_in (hs : HS ρ H n w) {b l : Nat} (hl : ρ b = some l) {j : Option Code} {v : V} {H' : T} {n' : Nat} (h : endR H b n j = .ok v H' n') : ∃ w', (Instr.endRound l j).run P w = .ok (.bool j.isNone) w' ∧ Tr ρ w ρ w' ∧ HS ρ H' n' w' ∧ v = .bool j.isNone := by
  unfold endR at h
  split at h
  · rename_i st pd N E ps sg bd hb
    cases h
    obtain ⟨l', hl', fn, tmps, df, hw, he⟩ := loop_at hs hb
    rw [hl] at hl'
    have := Option.some.inj hl'
    subst this
    have hlt := (Array.getElem?_eq_some_iff.1 hw).1
    obtain ⟨h1, h2⟩ := HS.loop hs (fn := fn) (df := df) (ps := ps) (sg := sg) (bd := bd) (by rw [hb]; simp) hl hlt he (bif j.isNone then 0 else 2) j
    refine ⟨_, ?_, h2, h1, rfl⟩
    rw [run_endRound j hw]
    cases j <;> rfl
  · cases h
theorem round_in (hc : Claim P ih) (hs : HS ρ H n w) {b l : Nat} {st : Nat} {pd : Option Code} {N0 : Nat} {E0 E1 : En} {ps : List Nat} {sg bd : Code} (hl : ρ b = some l) (hnr : (noRf sg && noRf bd) = true) {fn : FuncId} {tmps : Array Value} (he : HE ρ { tmps := tmps, defers := [] } N0 E1)
    {v : V} {H' : T} {n' : Nat} (h : round2 ih b N0 bd (ih N0 sg E1 H n) = .ok v H' n') {ro : Option Nat} {m : Nat} {R : Ending → World → Prop} (hR : ∀ ρ' x w', Tr ρ w ρ' w' → HS ρ' H' n' w' → Den ρ' v x → R (.returned x) w') :
    RoundIn (FW ro) m P l fn tmps sg bd w R := by
  rw [Bool.and_eq_true] at hnr
  refine roundIn_of_wpIn trivial ?_
  show sg.wpIn (FW (some l)) m P _ _ w
  refine hc.2 N0 sg E1 H n (some l) m w.heap.size ρ _ w _ (.inr hnr.1) hs he (Mk.nil ρ w) ?_
  generalize ih N0 sg E1 H n = r at h
  cases r with
  | exit id E H n => cases h
  | ret E H n => cases h
  | bad y => cases h
  | norm E2 H2 n2 =>
    intro ρ2 a2 w2 tr2 hs2 he2 mk2
    have h : (match get H2 b with
      | .loop st pd N' E' ps' sg' bd' => (match Nat.beq st 0 with
        | true => roundE b (ih N0 bd E2 (put H2 b (.loop 1 pd N' E' ps' sg' bd')) n2)
        | false => .bad (.nb 6))
      | _ => .bad (.nb 6)) = Cr.ok v H' n' := h
    split at h
    · rename_i st' pd' N' E' ps' sg' bd' hb
      split at h
      · rename_i hst
        have hst := Nat.eq_of_beq_eq_true hst
        subst hst
        obtain ⟨l', hl', fn', tmps', df, hw, heL⟩ := loop_at hs2 hb
        have hl2 := (tr2.le b l hl).1
        rw [hl2] at hl'
        have := Option.some.inj hl'
        subst this
        have hlt := (Array.getElem?_eq_some_iff.1 hw).1
        obtain ⟨hs3, tr3⟩ := HS.loop hs2 (fn := fn') (df := df) (ps := ps') (sg := sg') (bd := bd') (by rw [hb]; simp) hl2 hlt heL 1 pd'
        show ∃ w₂, (Instr.beginRound l).run P w2 = .ok () w₂ ∧ _
        refine ⟨_, run_beginRound hw rfl, ?_⟩
        show bd.wpIn (FW (some l)) m P _ _ _
        refine hc.2 N0 bd E2 _ n2 (some l) m w.heap.size ρ2 a2 _ _ (.inr hnr.2) hs3 he2 (mk2.tr tr3) ?_
        generalize ih N0 bd E2 (put H2 b (.loop 1 pd' N' E' ps' sg' bd')) n2 = r at h
        cases r with
        | bad y => cases h
        | norm E3 H3 n3 =>
          intro ρ3 a3 w3 tr4 hs4 he4 mk4
          have hl3 := (tr4.le b l hl2).1
          obtain ⟨w4, e4, t5, hs5, rfl⟩ := endR_in (P := P) hs4 hl3 h
          exact ⟨_, w4, e4, hR ρ3 _ w4 (tr2.trans (tr3.trans (tr4.trans t5))) hs5 (.bool _)⟩
        | exit id E3 H3 n3 =>
          intro ρ3 a3 w3 tr4 hs4 he4 mk4
          have hl3 := (tr4.le b l hl2).1
          obtain ⟨w4, e4, t5, hs5, rfl⟩ := endR_in (P := P) hs4 hl3 h
          exact ⟨_, w4, e4, hR ρ3 _ w4 (tr2.trans (tr3.trans (tr4.trans t5))) hs5 (.bool _)⟩
        | ret E3 H3 n3 =>
          intro ρ3 a3 w3 tr4 hs4 he4 mk4
          have hl3 := (tr4.le b l hl2).1
          obtain ⟨w4, e4, t5, hs5, rfl⟩ := endR_in (P := P) hs4 hl3 h
          exact ⟨_, w4, e4, hR ρ3 _ w4 (tr2.trans (tr3.trans (tr4.trans t5))) hs5 (.bool _)⟩
      · cases h
    · cases h
theorem opX_defer {ih : X} {c : Call} (h : o.op = .defer c) : opX ih P E H n o = .bad (.op o) := by unfold opX; rw [h]
/-- One operation. -/
theorem op_in (hc : Claim P ih) (hs : HS ρ H n w) (he : HE ρ a N E) {ro : Option Nat} {m : Nat} {v : V} {H' : T} {n' : Nat} (h : opX ih P E H n o = .ok v H' n') {K : Act → World → Prop}
    (hK : ∀ ρ' x w', Tr ρ w ρ' w' → HS ρ' H' n' w' → Den ρ' v x → K (a.put o.dst x) w') : o.wpIn (FW ro) m P a w K Q := by
  have hnd : ∀ c, o.op ≠ .defer c := fun c e => by rw [opX_defer e] at h; cases h
  refine ⟨fun f _ => trivial, ?_⟩
  rw [Oper.semAt_eq _ _ _ hnd]
  have plain : crO o (opV P E H n o) = .ok v H' n' → o.uponIn (FW ro) m P a K Q ((execOp a.eval o).run P w) := by
    intro h
    unfold crO at h
    split at h
    · rename_i v0 H0 n0 h0
      cases h
      obtain ⟨w', ρ', le, hr', hv⟩ := opV_does hs he h0
      cases v0 with
      | some v =>
        obtain ⟨r, hrun, d⟩ := hv
        rw [hrun]
        exact hK ρ' r w' (hr'.tr le) hr'.self d
      | none =>
        have hrun : (execOp a.eval o).run P w = .ok .skip w' := hv
        rw [hrun]
        exact hK ρ' undef w' (hr'.tr le) hr'.self (den_un ρ')
    · cases h
  unfold opX at h
  split at h
  · cases h
  · rename_i c e
    obtain ⟨cal, args, ts⟩ := c
    simp only at h
    split at h
    · rename_i f
      split at h
      · rename_i g l1 l3 hf
        split at h
        · rename_i l2 hl2
          have df := evV_den he hf
          obtain ⟨L1, L3, ef, d1, d3⟩ : ∃ L1 L3 : List Value, a.eval f = .func (.func g) L1.toArray L3.toArray ∧ DL ρ l1 L1 ∧ DL ρ l3 L3 := by
            generalize a.eval f = X at df
            cases df with
            | fn f la ha lb hb => exact ⟨_, _, rfl, ⟨la, ha⟩, ⟨lb, hb⟩⟩
          have d2 := evL_den he hl2
          have e3 : L1.toArray ++ args.map a.eval ++ L3.toArray = ((L1 ++ args.toList.map a.eval) ++ L3).toArray := by apply Array.ext'; simp
          split at h
          · rename_i fc hfun
            obtain ⟨fn, c⟩ := fc
            have hen := (funT_spec hfun).2.2
            have hrun : (execOp a.eval o).run P w = .ok (.enter g ((L1 ++ args.toList.map a.eval) ++ L3).toArray) w := by
              rw [← e3]
              simp [execOp, e, resolve, Deferred.ofValue, ef, invoke, hen]
            rw [hrun, Oper.uponIn_enter]
            rw [app_eq, app_eq] at h
            split at h
            · rename_i v' hv'
              cases h
              refine ⟨fun h => (by cases h), CallsIn.mono (F := FW none) (hc.1 g _ _ hv' ρ _ w (m - 1) ((d1.app d2).app d3)) fun e1 w1 hR => ?_⟩
              obtain ⟨x, rfl, dx, gx⟩ := hR
              exact hK ρ x w1 ⟨Le.refl ρ, gx.ext, fun g hg => ⟨gx.old g hg.1, Nat.lt_of_lt_of_le hg.1 gx.ext.size, hg.2⟩⟩ (hs.other (fun g ⟨b, hb⟩ => gx.old g (hs.old b g hb).2) gx.ext) dx
            have hci := call_in hc hs ((d1.app d2).app d3) h (m - 1)
            refine ⟨fun h => (by cases h), CallsIn.mono (F := FW none) hci fun e1 w1 hR => ?_⟩
            obtain ⟨ρ', x, rfl, t1, t2, t3⟩ := hR
            exact hK ρ' x w1 t1 t2 t3
          · rw [app_eq, app_eq] at h
            obtain ⟨rfl, rfl, r, dr, hrun⟩ := ext_run (P := P) ((d1.app d2).app d3) h
            have hrun : (execOp a.eval o).run P w = .ok (.value r) w := by
              have := hrun w
              rw [← e3, Array.append_assoc] at this
              simp [execOp, e, resolve, Deferred.ofValue, ef, invoke, this]
            rw [hrun]
            exact hK ρ r w (Tr.refl ρ w) hs dr
        · cases h
      · rename_i b hf
        split at h
        · rename_i l2 hl2
          have df := evV_den he hf
          obtain ⟨l, ef, hl⟩ : ∃ l, a.eval f = .func (.yield l) #[] #[] ∧ ρ b = some l := by
            generalize a.eval f = X at df
            cases df with
            | yld h => exact ⟨_, rfl, h⟩
          have d2 := evL_den he hl2
          unfold yieldV at h
          split at h
          · rename_i st pd N0 E0 ps sg bd hb
            split at h
            · rename_i hnr
              split at h
              · rename_i E1 hps
                obtain ⟨l', hl', fn, tmps, df', hw, heL⟩ := loop_at hs hb
                rw [hl] at hl'
                have := Option.some.inj hl'
                subst this
                obtain ⟨hlen, he1⟩ := setPs_HE heL d2 hps
                have hsz : (args.map a.eval).size = ps.toArray.size := by simp at hlen ⊢; omega
                have hy := run_yield (P := P) hw hsz
                have ez : args.map a.eval = (args.toList.map a.eval).toArray := by apply Array.ext'; simp
                simp only at hy
                rw [ez, zip_fold] at hy
                have hrun : (execOp a.eval o).run P w = .ok (.round l fn ((ps.zip (args.toList.map a.eval)).foldl (fun tmps (t, a) => tmps.setIfInBounds t a) tmps) sg bd) w := by
                  have e4 : (#[] : Array Value) ++ args.map a.eval = (args.toList.map a.eval).toArray := by apply Array.ext'; simp
                  simp only [execOp, e, resolve, Deferred.ofValue, ef, Sem.run_bind, Sem.run_pure, Result.andThen_ok, invoke, e4]
                  exact hy
                rw [hrun, Oper.uponIn_round]
                refine ⟨fun h => (by cases h), round_in (st := st) (pd := pd) (E0 := E0) (ps := ps) hc hs hl hnr he1 h fun ρ' x w' t1 t2 t3 => ?_⟩
                exact hK ρ' x w' t1 t2 t3
              · cases h
            · cases h
          · cases h
        · cases h
      · cases h
    · exact plain h
  · exact plain h
theorem guard_in {ops : Array Oper} (he : HE ρ a N E) {b : Bool} (h : guardV ops.toList E o = some b) : Region.wanted o (yielded ops a.tmps) = b := by
  unfold guardV at h
  unfold Region.wanted
  split at h
  · rename_i hg
    rw [hg]
    exact (Option.some.inj h)
  · rename_i j want hg
    rw [hg]
    split at h
    · rename_i q hq
      rw [nth_eq] at hq
      have hq' : ops[j]? = some q := by simpa using hq
      split at h
      · rename_i d hd
        have hy : ∀ x, a.tmps[d]? = some x → yielded ops a.tmps j = (match x with | .bool b => some b | _ => none) := by
          intro x hx
          unfold yielded
          rw [hq']
          simp only [Option.bind_some, hd, hx]
          cases x <;> rfl
        split at h
        · rename_i v' hv
          obtain ⟨x, hx, dx⟩ := he.get d _ hv
          show (yielded ops a.tmps j == some want) = b
          rw [hy _ hx]
          unfold guB_ at h
          split at h
          · have := den_bool dx
            subst this
            have := Option.some.inj h
            rw [← this]
            rfl
          · cases h
          · rename_i hn1 hn2
            have := Option.some.inj h
            rw [← this]
            cases dx <;> first | rfl | (exact absurd rfl (fun e => hn1 _ e)) | (exact absurd rfl (fun e => hn2 _ e))
        · cases h
      · cases h
    · cases h
theorem ops_in (hc : Claim P ih) {ops : Array Oper} {ro : Option Nat} {m B : Nat} : ∀ {l : List Oper} {ρ : Pl} {E : En} {H : T} {n : Nat} {a : Act} {w : World}, HS ρ H n w → HE ρ a N E → Mk B ρ w a.defers → Post (opsR ih P N ops.toList l E H n) B ρ w N Q →
    wpListIn (FW ro) m P ops Q l a w := by
  intro l
  induction l with
  | nil => intro ρ E H n a w hs he mk h; exact h ρ a w (Tr.refl ρ w) hs he mk
  | cons o l ihl =>
    intro ρ E H n a w hs he mk h
    have e : opsR ih P N ops.toList (o :: l) E H n = (match inN N o.dst with
      | true => (match guardV ops.toList E o with
        | some true => (match opX ih P E H n o with
          | .ok v H' n' => opsR ih P N ops.toList l (setD o.dst v E) H' n'
          | .bad y => .bad y)
        | some false => opsR ih P N ops.toList l (setD o.dst unV E) H n
        | none => .bad (whyG ops.toList E o))
      | false => .bad (.op o)) := rfl
    rw [e] at h
    split at h
    · rename_i hN
      split at h
      · rename_i hg
        have hw := guard_in he hg
        split at h
        · rename_i v H' n' hop
          show (if _ then _ else _)
          rw [if_pos hw]
          refine op_in hc hs he hop fun ρ' x w' tr hs' d => ?_
          exact ihl hs' ((he.mono tr.le).set hN d) (by rw [put_defers]; exact mk.tr tr) (h.shift tr)
        · exact h.elim
      · rename_i hg
        have hw := guard_in he hg
        show (if _ then _ else _)
        rw [if_neg (by rw [hw]; simp)]
        exact ⟨fun f _ => trivial, ihl hs (he.set hN (den_un ρ)) (by rw [put_defers]; exact mk) h⟩
      · exact h.elim
    · exact h.elim
end
end
end Go.Proofs.YtagbmfdheppmoaaGreatDoor.Vm
