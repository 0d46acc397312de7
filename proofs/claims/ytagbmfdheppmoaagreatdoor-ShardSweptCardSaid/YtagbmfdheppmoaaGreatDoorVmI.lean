import Derived.Test.YtagbmfdheppmoaaGreatDoorVmH
import Derived.Scope
/-
  Code, whole: the machine is the model's.
-/
namespace Go.Proofs.YtagbmfdheppmoaaGreatDoor.Vm
set_option linter.unusedVariables false
set_option linter.unusedSimpArgs false
set_option linter.unusedSectionVars false
open Go.RowKit Go.Proofs.YtagbmfdheppmoaaGreatDoor.Sep
noncomputable section
variable [Vl]
section
variable {P : Program} {ih : X} {w : World} {ρ : Pl} {H : T} {n : Nat} {a : Act} {N : Nat} {E : En} {o : Oper} {Q : Exit → Act → World → Prop}
theorem drawS_cons {ops : Array Oper} (s : Stp) (pl : List Stp) (L : List Ld) (E : En) (H : T) (n : Nat) : drawS ih P N ops.toList (s :: pl) L E H n = (match nth ops.toList s.i with
      | some o => (match inN N o.dst with
        | true => (match guardV ops.toList E o with
          | some true => (match s with
            | .early i => (match earlyV P E H i o L with | some (v, L') => drawS ih P N ops.toList pl L' (setD o.dst v E) H n | none => .bad (.op o))
            | .only i => (match opX ih P E H n o with
              | .ok v H' n' => (match keepsM P H' (anc ops.toList 6 i) L with | true => drawS ih P N ops.toList pl L (setD o.dst v E) H' n' | false => .bad (.nb 11))
              | .bad y => .bad y)
            | .float _ => (match o.op with
              | .alloc t => (match zeT P t with | some cs => drawS ih P N ops.toList pl L (setD o.dst (.ptr n 0) E) (put H n (.row cs)) (Nat.add n 1) | none => .bad (.op o))
              | _ => .bad (.op o)))
          | some false => drawS ih P N ops.toList pl L (setD o.dst unV E) H n
          | none => .bad (whyG ops.toList E o))
        | false => .bad (.op o))
      | none => .bad (.nb 12)) := rfl
def stpOk (ops : Array Oper) (mask : Nat) (s : Stp) : Bool := match s with | .early i => !flAt ops.toList i && freeM ops mask i | .only i => !flAt ops.toList i && soleM ops mask i | .float i => flAt ops.toList i && soleM ops mask i
theorem chkP_cons {ops : Array Oper} (s : Stp) (pl : List Stp) (mask : Nat) : chkP ops (s :: pl) mask = (match rdyM ops.toList mask s.i with
      | true => (match stpOk ops mask s with
        | true => chkP ops pl (Nat.lor mask (Nat.shiftLeft 1 s.i))
        | false => false)
      | false => false) := rfl
theorem Post.no {r : Re} {B : Nat} (h : r.no) (k : Post r B ρ w N Q) : False := by cases r <;> first | exact h | exact k
theorem HT_true {ops : Array Oper} {ro : Option Nat} {m f : Nat} {M : Pm} {listed : Array Bool} {i : Nat} (h : HT P ops Q ro m f M listed a w) : HT P ops Q ro m f ((i, fun _ => True) :: M) listed a w := by
  induction f generalizing listed a w with
  | zero => exact h
  | succ f ihf => exact ⟨h.1, fun j hj => wpOpIn_mono (fun a' w' h' => ⟨fun e he hb hw => by
      rcases List.mem_cons.1 he with rfl | he
      · trivial
      · exact h'.1 e he hb hw, ihf h'.2⟩) (h.2 j hj)⟩
/-! ### what was made ahead of the machine -/
theorem look_del {E : En} {d t : Nat} {x : V} (h : look (delE E d) t = some x) : d ≠ t ∧ look E t = some x := by
  unfold delE look at h
  by_cases hdt : d = t
  · subst hdt
    exfalso
    cases hd : dig d with
    | out => rw [hd] at h; cases h
    | mk a b c =>
      rw [hd] at h
      have h : N8.get c (N8.get b (N8.get a (N8.set a (N8.set b (N8.set c none (N8.get b (N8.get a E))) (N8.get a E)) E))) = some x := h
      rw [N8.get_set, if_pos rfl, N8.get_set, if_pos rfl, N8.get_set, if_pos rfl] at h
      cases h
  · refine ⟨hdt, ?_⟩
    unfold look
    cases hd : dig d with
    | out => rw [hd] at h; exact h
    | mk a b c =>
      rw [hd] at h
      cases ht : dig t with
      | out => rw [ht] at h; cases h
      | mk a' b' c' =>
        rw [ht] at h
        have h : N8.get c' (N8.get b' (N8.get a' (N8.set a (N8.set b (N8.set c none (N8.get b (N8.get a E))) (N8.get a E)) E))) = some x := h
        show N8.get c' (N8.get b' (N8.get a' E)) = some x
        rw [N8.get_set] at h
        by_cases h1 : a' = a
        · rw [if_pos h1, N8.get_set] at h
          by_cases h2 : b' = b
          · rw [if_pos h2, N8.get_set] at h
            by_cases h3 : c' = c
            · subst h1; subst h2; subst h3
              exact absurd ((dig_mk hd).trans (dig_mk ht).symm) hdt
            · rw [if_neg h3] at h; subst h1; subst h2; exact h
          · rw [if_neg h2] at h; subst h1; exact h
        · rw [if_neg h1] at h; exact h
theorem look_clrs {E : En} : ∀ {ops : List Oper} {t : Nat} {x : V}, look (clrs ops E) t = some x → look E t = some x ∧ ∀ o ∈ ops, isFl o = true → o.dst ≠ some t
  | [], t, x, h => ⟨h, fun o ho => by cases ho⟩
  | o :: ops, t, x, h => by
    have e : clrs (o :: ops) E = (match isFl o with | true => (match o.dst with | some d => delE (clrs ops E) d | none => clrs ops E) | false => clrs ops E) := rfl
    rw [e] at h
    split at h
    · split at h
      · rename_i d hd
        obtain ⟨h1, h2⟩ := look_del h
        obtain ⟨h3, h4⟩ := look_clrs h2
        refine ⟨h3, fun q hq hf => ?_⟩
        rcases List.mem_cons.1 hq with rfl | hq
        · rw [hd]; intro e; exact h1 (Option.some.inj e)
        · exact h4 q hq hf
      · rename_i hd
        obtain ⟨h3, h4⟩ := look_clrs h
        refine ⟨h3, fun q hq hf => ?_⟩
        rcases List.mem_cons.1 hq with rfl | hq
        · rw [hd]; intro e; cases e
        · exact h4 q hq hf
    · rename_i hn
      obtain ⟨h3, h4⟩ := look_clrs h
      refine ⟨h3, fun q hq hf => ?_⟩
      rcases List.mem_cons.1 hq with rfl | hq
      · rw [hn] at hf; cases hf
      · exact h4 q hq hf
theorem dstOk_spec {ops : Array Oper} (h : dstOk ops = true) {j k : Nat} {oj ok : Oper} (hj : ops[j]? = some oj) (hk : ops[k]? = some ok) (hf : isFl oj = true) (hne : k ≠ j) {d : Nat} (hd : oj.dst = some d) : ok.dst ≠ some d := by
  have h1 := allB_spec h j (Array.getElem?_eq_some_iff.1 hj).1
  rw [flAt_spec hj, hf] at h1
  have h2 := allB_spec h1 k (Array.getElem?_eq_some_iff.1 hk).1
  have ej : nth ops.toList j = some oj := by rw [nth_eq]; simpa using hj
  have ek : nth ops.toList k = some ok := by rw [nth_eq]; simpa using hk
  have hb : Nat.beq k j = false := by rw [nbeq, decide_eq_false hne]
  simp only [hb, ej, ek, hd] at h2
  intro e
  rw [e] at h2
  simp at h2
/-- What is known of what was made. -/
structure Dn (P : Program) (ops : Array Oper) (mask : Nat) (D : List (Nat × Nat)) (w0 : World) (ρ : Pl) (a : Act) (w : World) (E : En) : Prop where
  un : ∀ p ∈ D, mask.testBit p.1 = false
  fl : ∀ p ∈ D, ∃ o d t z, ops[p.1]? = some o ∧ isFl o = true ∧ o.op = .alloc t ∧ o.dst = some d ∧ a.tmps[d]? = some (.pointer (some ⟨p.2, 0, none⟩)) ∧ w0.heap.size ≤ p.2 ∧ Out_ ρ w p.2 ∧ (zeroValue t).run P default = .ok z default ∧ w.heap[p.2]? = some (.cells z.cells t (0, 0))
  inj : ∀ p ∈ D, ∀ q ∈ D, p.2 = q.2 → p = q
  one : ∀ p ∈ D, ∀ q ∈ D, p.1 = q.1 → p = q
  no : ∀ (j : Nat) (o : Oper) (d : Nat), ops[j]? = some o → isFl o = true → mask.testBit j = false → o.dst = some d → look E d = none
theorem isFl_spec {o : Oper} (h : isFl o = true) : ∃ t d, o.op = .alloc t ∧ o.guard = none ∧ o.dst = some d := by
  unfold isFl at h
  split at h
  · rename_i t ho
    split at h
    · rename_i hg
      split at h
      · rename_i d hd; exact ⟨t, d, ho, hg, hd⟩
      · cases h
    · cases h
  · cases h
theorem bit_lor (mask i j : Nat) : (Nat.lor mask (Nat.shiftLeft 1 i)).testBit j = (mask.testBit j || decide (i = j)) := by
  show (mask ||| Nat.shiftLeft 1 i).testBit j = _
  rw [Nat.testBit_or, bit_one]
theorem Dn.nil {ops : Array Oper} (w0 : World) : Dn P ops 0 [] w0 ρ a w (clrs ops.toList E) :=
  ⟨fun p h => (by cases h), fun p h => (by cases h), fun p h => (by cases h), fun p h => (by cases h), fun j o d hj hf _ hd => by
    cases h : look (clrs ops.toList E) d with
    | none => rfl
    | some x => exact absurd hd ((look_clrs h).2 o (by have := Array.mem_of_getElem? hj; simpa using this) hf)⟩
theorem setD_none {E : En} {q : Option Tmp} {v : V} {d : Nat} (h : look E d = none) (hne : q ≠ some d) : look (setD q v E) d = none := by
  cases q with
  | none => exact h
  | some e =>
    show look (setE E e v) d = none
    cases hx : look (setE E e v) d with
    | none => rfl
    | some x =>
      rcases look_set hx with ⟨e1, _⟩ | ⟨_, e2⟩
      · exact absurd (by rw [e1]) hne
      · rw [h] at e2; cases e2
theorem put_other {a : Act} {q : Option Tmp} {x : Value} {d : Nat} (hne : q ≠ some d) : (a.put q x).tmps[d]? = a.tmps[d]? := by
  cases q with
  | none => rfl
  | some e => simp only [Act.put]; rw [Array.getElem?_setIfInBounds_ne (fun e1 => hne (by rw [e1]))]
/-- Behind another operation. -/
theorem Dn.step {ops : Array Oper} {mask : Nat} {D : List (Nat × Nat)} {w0 : World} (h : Dn P ops mask D w0 ρ a w E) (hds : dstOk ops = true) {i : Nat} {oi : Oper} (hi : ops[i]? = some oi) (hnf : isFl oi = false) {ρ' : Pl} {w' : World} (tr : Tr ρ w ρ' w') (x : Value) (v : V) : Dn P ops (Nat.lor mask (Nat.shiftLeft 1 i)) D w0 ρ' (a.put oi.dst x) w' (setD oi.dst v E) := by
  have hne : ∀ (j : Nat) (o : Oper), ops[j]? = some o → isFl o = true → i ≠ j := fun j o hj hf e => by
    subst e; rw [hi] at hj; cases hj; rw [hnf] at hf; cases hf
  refine ⟨fun p hp => ?_, fun p hp => ?_, h.inj, h.one, fun j o d hj hf hm hd => ?_⟩
  · obtain ⟨o, d, t, z, h1, h2, _⟩ := h.fl p hp
    rw [bit_lor, h.un p hp, decide_eq_false (hne _ o h1 h2)]; rfl
  · obtain ⟨o, d, t, z, h1, h2, h3, h4, h5, h6, h7, h8, h9⟩ := h.fl p hp
    exact ⟨o, d, t, z, h1, h2, h3, h4, by rw [put_other (dstOk_spec hds h1 hi h2 (hne _ o h1 h2) h4)]; exact h5, h6, (tr.out _ h7).2, h8, (tr.out _ h7).1.trans h9⟩
  · rw [bit_lor, Bool.or_eq_false_iff] at hm
    exact setD_none (h.no j o d hj hf hm.1 hd) (dstOk_spec hds hj hi hf (hne _ o hj hf) hd)
/-- A tracked block more. -/
theorem HS.adopt (hs : HS ρ H n w) {g : Nat} {z : Value} {t : TypeId} {cs : List V} (ho : Out_ ρ w g) (hw : w.heap[g]? = some (.cells z.cells t (0, 0))) (hd : ∀ ρ', DL ρ' cs z.cells.toList) :
    HS (up ρ n g z.cells.size) (put H n (.row cs)) (n + 1) w := by
  have le := hs.le g z.cells.size
  have hnn : get H n = .no := by
    by_cases e : get H n = .no
    · exact e
    · obtain ⟨g, e1, _⟩ := hs.obj n e
      rw [hs.new n (Nat.le_refl _)] at e1; cases e1
  have key : ∀ b, get (put H n (.row cs)) b ≠ .no → (b = n ∧ get (put H n (.row cs)) b = .row cs) ∨ (b ≠ n ∧ get (put H n (.row cs)) b = get H b) := by
    intro b hb
    rcases get_put H n b (.row cs) with e | ⟨e, e2⟩
    · by_cases hbn : b = n
      · subst hbn; rw [show get (put H b (.row cs)) b = get H b from e, hnn] at hb; exact absurd rfl hb
      · exact .inr ⟨hbn, e⟩
    · exact .inl ⟨e, e2⟩
  refine ⟨fun b hb => ?_, fun b c k hb hc e1 e2 => ?_, fun b hb => ?_, fun b k e => ?_, fun k hk => ⟨hk.1, rfl⟩, Ext.refl w⟩
  · rcases key b hb with ⟨rfl, e⟩ | ⟨hne, e⟩
    · refine ⟨g, up_new .., ?_⟩
      rw [e]
      exact ⟨z.cells.toList, [], t, by rw [hw]; simp, hd _, by rw [up_sz]; simp⟩
    · rw [e] at hb ⊢
      obtain ⟨k, e1, hk⟩ := hs.obj b hb
      exact ⟨k, (le _ _ e1).1, hk.mono le e1⟩
  · have hx : ∀ b k, get (put H n (.row cs)) b ≠ .no → (up ρ n g z.cells.size) b = some k → (b = n ∧ k = g) ∨ (b ≠ n ∧ ρ b = some k ∧ get H b ≠ .no ∧ k ≠ g) := by
      intro b k hb e
      rcases key b hb with ⟨rfl, e3⟩ | ⟨hne, e3⟩
      · rw [up_at, if_pos rfl] at e; exact .inl ⟨rfl, (Option.some.inj e).symm⟩
      · rw [e3] at hb; rw [up_at, if_neg hne] at e; exact .inr ⟨hne, e, hb, fun e4 => ho.2 b (e4 ▸ e)⟩
    rcases hx b k hb e1 with ⟨rfl, e3⟩ | ⟨hne, e3, e4, e5⟩
    · rcases hx c k hc e2 with ⟨rfl, _⟩ | ⟨_, _, _, e6⟩
      · rfl
      · exact absurd e3 e6
    · rcases hx c k hc e2 with ⟨rfl, e6⟩ | ⟨_, e6, e7, _⟩
      · exact absurd e6 e5
      · exact hs.inj b c k e4 e7 e3 e6
  · rw [up_at, if_neg (by omega)]; exact hs.new b (by omega)
  · rw [up_at] at e
    by_cases hb : b = n
    · rw [if_pos hb] at e
      have : g = k := Option.some.inj e
      subst this
      exact ⟨fun hf => hf.2 n (up_new ..), ho.1⟩
    · rw [if_neg hb] at e
      exact ⟨fun hf => hf.2 b (by rw [up_at, if_neg hb]; exact e), (hs.old b k e).2⟩
theorem alloc_run {o : Oper} {t : TypeId} {z : Value} (ho : o.op = .alloc t) (hz : ∀ w, (zeroValue t).run P w = .ok z w) (a : Act) (w : World) : (execOp a.eval o).run P w = .ok (.value (.pointer (some ⟨w.heap.size, 0, none⟩))) (w.alloc (.cells z.cells t)) := by
  simp [execOp, ho, Instr.alloc, newVar, newRow, hz]
theorem LdR.pres {ops : Array Oper} {L : List Ld} {M : Pm} (hr : LdR P ρ L M) (hs : HS ρ H n w) (o : Obj) (k : Nat) : Pres ops M k w (w.alloc o) := by
  intro x hx _ h
  obtain ⟨j, hj, e⟩ := List.getElem_of_mem hx
  have h2 : M[j]? = some x := by rw [List.getElem?_eq_getElem hj, e]
  have hjL : j < L.length := hr.1 ▸ hj
  obtain ⟨a1, g, y, a2, a3, a4⟩ := hr.2 j _ _ (List.getElem?_eq_getElem hjL) h2
  rw [a4] at h ⊢
  obtain ⟨ob, h3, h4⟩ := h
  refine ⟨ob, ?_, h4⟩
  rw [← h3]
  have := (hs.old _ _ a2).2
  show (w.heap.push o)[g]? = _
  rw [Array.getElem?_push_lt this]; simp [this]
theorem Tr.alloc0 (hs : HS ρ H n w) (o : Obj) : Tr ρ w ρ (w.alloc o) ∧ HS ρ H n (w.alloc o) := by
  have hold : ∀ g, g < w.heap.size → (w.alloc o).heap[g]? = w.heap[g]? := fun g hg => by show (w.heap.push o)[g]? = _; rw [Array.getElem?_push_lt hg]; simp [hg]
  have ext : Ext w (w.alloc o) := ⟨rfl, rfl, rfl, by simp, Nat.le_refl _⟩
  exact ⟨⟨Le.refl ρ, ext, fun g hg => ⟨hold g hg.1, Nat.lt_of_lt_of_le hg.1 ext.size, hg.2⟩⟩, hs.other (fun g ⟨b, hb⟩ => hold g (hs.old b g hb).2) ext⟩
theorem draw_in (hc : Claim P ih) {ops : Array Oper} (hsel : ∀ (j : Nat) (o : Oper) cs b, ops[j]? = some o → o.op ≠ .select cs b) (hnd : ∀ (j : Nat) (o : Oper) c, ops[j]? = some o → o.op ≠ .defer c) (hds : dstOk ops = true) (hdn : ∀ (j : Nat) (o : Oper), ops[j]? = some o → isFl o = true → inN N o.dst = true) (hz : ∀ (j : Nat) (o : Oper) (t : TypeId), ops[j]? = some o → o.op = .alloc t → ∃ z cs, (∀ w, (zeroValue t).run P w = .ok z w) ∧ zeT P t = some cs ∧ ∀ ρ', DL ρ' cs z.cells.toList)
    (hQ : ∀ e a w, Q e a w → e = .normal) {ro : Option Nat} {m B : Nat} {ρ0 : Pl} {w0 : World} :
    ∀ (pl : List Stp) (f : Nat) {mask : Nat} {D : List (Nat × Nat)} {listed : Array Bool} {L : List Ld} {M : Pm} {ρ : Pl} {E : En} {H : T} {n : Nat} {a : Act} {w : World}, f = cnt listed ops.size → Lst ops mask D listed → Closed ops listed → chkP ops pl mask = true → Tr ρ0 w0 ρ w → HS ρ H n w → HE ρ a N E → Mk B ρ w a.defers → LdR P ρ L M → Dn P ops mask D w0 ρ a w E → Post (drawS ih P N ops.toList pl L E H n) B ρ0 w0 N Q → HT P ops Q ro m f M listed a w
  | [], f, mask, D, listed, L, M, ρ, E, H, n, a, w, hf, hl, hcl, hck, tr, hs, he, mk, hL, hD, h => by
    have hck : allB (tb mask) ops.size = true := hck
    have hall : ∀ j, j < ops.size → listed.getD j false = true := fun j hj => (hl.bit j).2 (.inl (by have := allB_spec hck j hj; rwa [tb_eq] at this))
    rw [cnt_zero hall] at hf
    subst hf
    refine ⟨?_, h ρ a w tr hs he mk⟩
    apply List.eq_nil_iff_forall_not_mem.2
    intro j hj
    obtain ⟨h1, o, ho, _⟩ := mem_ready.1 hj
    have hlt := (Array.getElem?_eq_some_iff.1 ho).1
    rw [getD_tf (by rw [hl.size]; exact hlt), hall j hlt] at h1
    cases h1
  | s :: pl, f, mask, D, listed, L, M, ρ, E, H, n, a, w, hf, hl, hcl, hck, tr, hs, he, mk, hL, hD, h => by
    have e := drawS_cons (ih := ih) (P := P) (N := N) (ops := ops) s pl L E H n
    have ec := chkP_cons (ops := ops) s pl mask
    have h0 := h
    have hck0 := hck
    rw [e] at h
    rw [ec] at hck
    split at hck
    case h_2 => cases hck
    case h_1 hr =>
    split at hck
    case h_2 => cases hck
    case h_1 hm =>
    obtain ⟨oi, hoi, hun, _⟩ := rdyM_iff.1 hr
    have hlt := (Array.getElem?_eq_some_iff.1 hoi).1
    have en : nth ops.toList s.i = some oi := by rw [nth_eq]; simpa using hoi
    rw [en] at h
    simp only at h
    have hDfl : ∀ p ∈ D, flAt ops.toList p.1 = true ∧ p.1 < ops.size := fun p hp => by
      obtain ⟨o, d, t, z, h1, h2, _⟩ := hD.fl p hp
      exact ⟨by rw [flAt_spec h1]; exact h2, (Array.getElem?_eq_some_iff.1 h1).1⟩
    split at h
    case h_2 => exact h.elim
    case h_1 hN =>
    -- another variable is made meanwhile
    have made : ∀ (g' : Nat) (k : Nat), g' + 1 = f → k ∈ Region.ready .any ops listed → flAt ops.toList k = true → (∀ {D' : List (Nat × Nat)} {listed' : Array Bool} {a' : Act} {w' : World}, g' = cnt listed' ops.size → Lst ops mask D' listed' → Closed ops listed' → Tr ρ0 w0 ρ w' → HS ρ H n w' → HE ρ a' N E → Mk B ρ w' a'.defers → Dn P ops mask D' w0 ρ a' w' E → HT P ops Q ro m g' M listed' a' w') →
        wpOpIn (FW ro) m P ops Q k (fun a' w' => Pres ops M k w w' ∧ HT P ops Q ro m g' M (listed.setIfInBounds k true) a' w') a w := by
      intro g' k hgf hk hfk rec_
      obtain ⟨hku, ok, hok, _⟩ := mem_ready.1 hk
      rw [flAt_spec hok] at hfk
      obtain ⟨t, d, e1, e2, e3⟩ := isFl_spec hfk
      have hklt := (Array.getElem?_eq_some_iff.1 hok).1
      rw [getD_tf (by rw [hl.size]; exact hklt)] at hku
      obtain ⟨z, cs, hzr, _, _⟩ := hz k ok t hok e1
      unfold wpOpIn
      simp only [hok]
      rw [if_pos (by unfold Region.wanted; rw [e2])]
      refine ⟨fun f _ => trivial, ?_⟩
      rw [Oper.semAt_eq _ _ _ (fun c e => hnd k ok c hok e), alloc_run e1 hzr]
      refine ⟨hL.pres hs _ k, ?_⟩
      obtain ⟨trA, hsA⟩ := Tr.alloc0 hs (.cells z.cells t)
      have hmk : mask.testBit k = false := by
        cases hm : mask.testBit k with
        | false => rfl
        | true => rw [(hl.bit k).2 (.inl hm)] at hku; cases hku
      have hin := hdn k ok hok hfk
      have hnone : look E d = none := hD.no k ok d hok hfk hmk e3
      have hw0 : w0.heap.size ≤ w.heap.size := tr.ext.size
      refine rec_ (D' := (k, w.heap.size) :: D) ?_ (hl.made hklt) (hcl.set (ready_sat hk)) (tr.trans trA) hsA ?_ (by rw [put_defers]; exact mk.tr trA) ?_
      · have := cnt_set (listed := listed) (by rw [hl.size]; exact hklt) hku (n := ops.size) hklt
        omega
      · rw [e3]
        refine ⟨by simp [Act.put, he.size], fun t' v' e' => ?_⟩
        obtain ⟨y, e5, d5⟩ := he.get t' v' e'
        refine ⟨y, ?_, d5⟩
        rw [put_other (q := some d)]
        · exact e5
        · intro e6; have := Option.some.inj e6; subst this; rw [hnone] at e'; cases e'
      · refine ⟨fun p hp => ?_, fun p hp => ?_, fun p hp q hq hpq => ?_, fun p hp q hq hpq => ?_, hD.no⟩
        · rcases List.mem_cons.1 hp with rfl | hp
          · exact hmk
          · exact hD.un p hp
        · rcases List.mem_cons.1 hp with rfl | hp
          · refine ⟨ok, d, t, z, hok, hfk, e1, e3, ?_, hw0, ⟨by simp, fun b hb => ?_⟩, hzr default, World.alloc_heap_new w _⟩
            · rw [e3]
              have : d < a.tmps.size := by rw [he.size]; rw [e3] at hin; exact blt_lt hin
              simp [Act.put, this]
            · have := (hs.old b _ hb).2; omega
          · obtain ⟨o, d', t', z', h1, h2, h3, h4, h5, h6, h7, h8, h9⟩ := hD.fl p hp
            have hne : k ≠ p.1 := by
              intro e
              have := (hl.bit p.1).2 (.inr ⟨p.2, by simpa using hp⟩)
              rw [← e, hku] at this; cases this
            exact ⟨o, d', t', z', h1, h2, h3, h4, by rw [put_other (dstOk_spec hds h1 hok h2 hne h4)]; exact h5, h6, (trA.out _ h7).2, h8, (trA.out _ h7).1.trans h9⟩
        · rcases List.mem_cons.1 hp with rfl | hp <;> rcases List.mem_cons.1 hq with rfl | hq
          · rfl
          · obtain ⟨o, d', t', z', h1, h2, h3, h4, h5, h6, h7, h8, h9⟩ := hD.fl q hq
            have := h7.1; simp only at hpq; omega
          · obtain ⟨o, d', t', z', h1, h2, h3, h4, h5, h6, h7, h8, h9⟩ := hD.fl p hp
            have := h7.1; simp only at hpq; omega
          · exact hD.inj p hp q hq hpq
        · rcases List.mem_cons.1 hp with rfl | hp <;> rcases List.mem_cons.1 hq with rfl | hq
          · rfl
          · simp only at hpq
            have := (hl.bit q.1).2 (.inr ⟨q.2, hq⟩)
            rw [← hpq] at this; rw [this] at hku; cases hku
          · simp only at hpq
            have := (hl.bit p.1).2 (.inr ⟨p.2, hp⟩)
            rw [hpq] at this; rw [this] at hku; cases hku
          · exact hD.one p hp q hq hpq
    have again : ∀ g', g' + 1 = f → ∀ {D' : List (Nat × Nat)} {listed' : Array Bool} {a' : Act} {w' : World}, g' = cnt listed' ops.size → Lst ops mask D' listed' → Closed ops listed' → Tr ρ0 w0 ρ w' → HS ρ H n w' → HE ρ a' N E → Mk B ρ w' a'.defers → Dn P ops mask D' w0 ρ a' w' E → HT P ops Q ro m g' M listed' a' w' :=
      fun g' hgf => fun h1 h2 h3 h4 h5 h6 h7 h8 => draw_in hc hsel hnd hds hdn hz hQ (s :: pl) g' h1 h2 h3 hck0 h4 h5 h6 h7 hL h8 h0
    -- an operation that the machine does now, and that was not done
    have pos : (∀ g, (s.i, g) ∉ D) → listed.getD s.i false = false ∧ ∃ g', g' + 1 = f ∧ g' = cnt (listed.setIfInBounds s.i true) ops.size := fun hnD => by
      have hu := hl.un hun hnD
      have := cnt_set (listed := listed) (by rw [hl.size]; exact hlt) hu (n := ops.size) hlt
      exact ⟨hu, cnt (listed.setIfInBounds s.i true) ops.size, by omega, rfl⟩
    split at h
    · rename_i hg
      have hw := guard_in he hg
      cases s with
      | early i =>
        have hoi : ops[i]? = some oi := hoi
        have hm : (!flAt ops.toList i && freeM ops mask i) = true := hm
        rw [Bool.and_eq_true] at hm
        have hnfl : isFl oi = false := by have := hm.1; rw [flAt_spec hoi] at this; simpa using this
        have hnD : ∀ g, (i, g) ∉ D := fun g hg => by
          obtain ⟨o, d, t, z, h1, h2, _⟩ := hD.fl _ hg
          simp only at h1; rw [hoi] at h1; cases h1; rw [hnfl] at h2; cases h2
        obtain ⟨hu, g', hgf, hgc⟩ := pos hnD
        have hr' : i ∈ Region.ready .any ops listed := rdyM_ready hl hr hnD
        have hl' := hl.set (i := i) hlt
        have hcl' := hcl.set (ready_sat hr')
        subst hgf
        simp only at h
        split at h
        · rename_i v L' hv
          obtain ⟨r, S, d, hS, hrun, hLM⟩ := earlyV_run (P := P) hs he hL hv
          have hst := hD.step hds hoi hnfl (Tr.refl ρ w) r v
          refine HT.first (v := r) (S := S) hoi hsel hnd hQ g' listed a w (freeM_spec hl hoi hm.2) hr' hcl (.inl ⟨hw, hrun⟩) hS ?_
          rcases hLM with ⟨rfl, rfl⟩ | hLM
          · exact HT_true (draw_in hc hsel hnd hds hdn hz hQ pl g' hgc hl' hcl' hck tr hs (he.set hN d) (by rw [put_defers]; exact mk) hL hst h)
          · exact draw_in hc hsel hnd hds hdn hz hQ pl g' hgc hl' hcl' hck tr hs (he.set hN d) (by rw [put_defers]; exact mk) hLM hst h
        · exact h.elim
      | only i =>
        have hoi : ops[i]? = some oi := hoi
        have hm : (!flAt ops.toList i && soleM ops mask i) = true := hm
        rw [Bool.and_eq_true] at hm
        have hnfl : isFl oi = false := by have := hm.1; rw [flAt_spec hoi] at this; simpa using this
        have hnD : ∀ g, (i, g) ∉ D := fun g hg => by
          obtain ⟨o, d, t, z, h1, h2, _⟩ := hD.fl _ hg
          simp only at h1; rw [hoi] at h1; cases h1; rw [hnfl] at h2; cases h2
        obtain ⟨hu, g', hgf, hgc⟩ := pos hnD
        have hr' : i ∈ Region.ready .any ops listed := rdyM_ready hl hr hnD
        have hl' := hl.set (i := i) hlt
        have hcl' := hcl.set (ready_sat hr')
        simp only at h
        have hgf0 := hgf
        subst hgf
        refine ⟨fun e0 => (by rw [e0] at hr'; cases hr'), fun k hk => ?_⟩
        rcases soleM_spec hl hDfl hnD hm.2 hk with rfl | hkf
        · unfold wpOpIn
          simp only [hoi]
          rw [if_pos hw]
          split at h
          · rename_i v H' n' hop
            split at h
            · rename_i hk
              exact op_in hc hs he hop fun ρ' x w' tr' hs' d => ⟨keep_Pres hs' (hL.mono tr'.le) hk, draw_in hc hsel hnd hds hdn hz hQ pl g' hgc hl' hcl' hck (tr.trans tr') hs' ((he.mono tr'.le).set hN d) (by rw [put_defers]; exact mk.tr tr') (hL.mono tr'.le) (hD.step hds hoi hnfl tr' x v) h⟩
            · exact h.elim
          · exact h.elim
        · exact made g' k rfl hk hkf (again g' rfl)
      | float i =>
        have hoi : ops[i]? = some oi := hoi
        have hm : (flAt ops.toList i && soleM ops mask i) = true := hm
        rw [Bool.and_eq_true] at hm
        have hfl : isFl oi = true := by have := hm.1; rwa [flAt_spec hoi] at this
        obtain ⟨t, d, e1, e2, e3⟩ := isFl_spec hfl
        by_cases hin : ∃ g, (i, g) ∈ D
        · obtain ⟨g, hgD⟩ := hin
          obtain ⟨o, d', t', z, h1, h2, h3, h4, h5, h6, h7, h8, h9⟩ := hD.fl _ hgD
          simp only at h1 h5 h6 h7 h9
          rw [hoi] at h1; cases h1
          rw [e1] at h3; cases h3
          rw [e3] at h4; cases h4
          obtain ⟨z', cs, hzr, hzt, hzd⟩ := hz i oi t hoi e1
          have : z' = z := by have := (hzr default).symm.trans h8; simp only [Result.ok.injEq, and_true] at this; exact this
          subst this
          simp only [e1, hzt] at h
          have hsA := HS.adopt hs h7 h9 hzd
          have le := hs.le g z'.cells.size
          let D' := D.filter fun p => decide (p.1 ≠ i)
          have hD' : ∀ p, p ∈ D' ↔ p ∈ D ∧ p.1 ≠ i := fun p => by simp [D']
          have hfr : ∀ k, k ≠ g → Out_ ρ w k → Out_ (up ρ n g z'.cells.size) w k := fun k hk ho => ⟨ho.1, fun b hb => by
            rw [up_at] at hb
            by_cases hbn : b = n
            · rw [if_pos hbn] at hb; exact hk (Option.some.inj hb).symm
            · rw [if_neg hbn] at hb; exact ho.2 b hb⟩
          refine draw_in hc hsel hnd hds hdn hz hQ pl f hf (hl.take hgD hD') hcl hck ⟨tr.le.trans le, tr.ext, fun k hk => ⟨(tr.out k hk).1, hfr k (by have := hk.1; omega) (tr.out k hk).2⟩⟩ hsA ?_ ?_ (hL.mono le) ?_ h
          · rw [e3]
            refine ⟨he.size, fun t' v' e' => ?_⟩
            rcases look_set (E := E) e' with ⟨k1, k2⟩ | ⟨k1, k2⟩
            · subst k1; subst k2
              exact ⟨_, h5, .ptr 0 (up_new ..)⟩
            · obtain ⟨y, k3, k4⟩ := he.get t' v' k2
              exact ⟨y, k3, k4.mono le⟩
          · obtain ⟨rs, k1, k2, k3⟩ := mk.ok
            refine ⟨⟨rs, k1, k2, fun r hr => ⟨(k3 r hr).1, hfr r (fun e => ?_) (k3 r hr).2.1, (k3 r hr).2.2⟩⟩, mk.low⟩
            have := (k3 r hr).2.2
            rw [e, h9] at this; cases this
          · refine ⟨fun p hp => ?_, fun p hp => ?_, fun p hp q hq => hD.inj p ((hD' p).1 hp).1 q ((hD' q).1 hq).1, fun p hp q hq => hD.one p ((hD' p).1 hp).1 q ((hD' q).1 hq).1, fun j o d2 hj hf2 hm2 hd2 => ?_⟩
            · obtain ⟨hp1, hp2⟩ := (hD' p).1 hp
              rw [bit_lor, hD.un p hp1, decide_eq_false (Ne.symm hp2)]; rfl
            · obtain ⟨hp1, hp2⟩ := (hD' p).1 hp
              obtain ⟨o, d', t', z, k1, k2, k3, k4, k5, k6, k7, k8, k9⟩ := hD.fl _ hp1
              exact ⟨o, d', t', z, k1, k2, k3, k4, k5, k6, hfr _ (fun e => hp2 (by have := hD.inj p hp1 _ hgD e; rw [this])) k7, k8, k9⟩
            · rw [bit_lor, Bool.or_eq_false_iff, decide_eq_false_iff_not] at hm2
              exact setD_none (hD.no j o d2 hj hf2 hm2.1 hd2) (dstOk_spec hds hj hoi hf2 hm2.2 hd2)
        · have hnD : ∀ g, (i, g) ∉ D := fun g hg => hin ⟨g, hg⟩
          obtain ⟨hu, g', hgf, hgc⟩ := pos hnD
          have hr' : i ∈ Region.ready .any ops listed := rdyM_ready hl hr hnD
          subst hgf
          refine ⟨fun e0 => (by rw [e0] at hr'; cases hr'), fun k hk => ?_⟩
          have hkf : flAt ops.toList k = true := by
            rcases soleM_spec hl hDfl hnD hm.2 hk with rfl | hkf
            · exact hm.1
            · exact hkf
          exact made g' k rfl hk hkf (again g' rfl)
    · rename_i hg
      have hw := guard_in he hg
      have hnfl : isFl oi = false := by
        cases hfl : isFl oi with
        | false => rfl
        | true =>
          obtain ⟨t, d, e1, e2, e3⟩ := isFl_spec hfl
          unfold guardV at hg; rw [e2] at hg; cases hg
      have hnD : ∀ g, (s.i, g) ∉ D := fun g hg => by
        obtain ⟨o, d, t, z, h1, h2, _⟩ := hD.fl _ hg
        simp only at h1; rw [hoi] at h1; cases h1; rw [hnfl] at h2; cases h2
      obtain ⟨hu, g', hgf, hgc⟩ := pos hnD
      have hr' : s.i ∈ Region.ready .any ops listed := rdyM_ready hl hr hnD
      have hl' := hl.set (i := s.i) hlt
      have hcl' := hcl.set (ready_sat hr')
      subst hgf
      cases s with
      | early i =>
        have hoi : ops[i]? = some oi := hoi
        have hm : (!flAt ops.toList i && freeM ops mask i) = true := hm
        rw [Bool.and_eq_true] at hm
        refine HT.first (S := fun _ => True) (v := undef) hoi hsel hnd hQ g' listed a w (freeM_spec hl hoi hm.2) hr' hcl (.inr ⟨hw, rfl⟩) trivial ?_
        exact HT_true (draw_in hc hsel hnd hds hdn hz hQ pl g' hgc hl' hcl' hck tr hs (he.set hN (den_un ρ)) (by rw [put_defers]; exact mk) hL (hD.step hds hoi hnfl (Tr.refl ρ w) undef unV) h)
      | only i =>
        have hoi : ops[i]? = some oi := hoi
        have hm : (!flAt ops.toList i && soleM ops mask i) = true := hm
        rw [Bool.and_eq_true] at hm
        refine ⟨fun e0 => (by rw [e0] at hr'; cases hr'), fun k hk => ?_⟩
        rcases soleM_spec hl hDfl hnD hm.2 hk with rfl | hkf
        · unfold wpOpIn
          simp only [hoi]
          rw [if_neg (by rw [hw]; simp)]
          exact ⟨fun f _ => trivial, fun _ _ _ h => h, draw_in hc hsel hnd hds hdn hz hQ pl g' hgc hl' hcl' hck tr hs (he.set hN (den_un ρ)) (by rw [put_defers]; exact mk) hL (hD.step hds hoi hnfl (Tr.refl ρ w) undef unV) h⟩
        · exact made g' k rfl hk hkf (again g' rfl)
      | float i =>
        have hoi : ops[i]? = some oi := hoi
        have hm : (flAt ops.toList i && soleM ops mask i) = true := hm
        rw [Bool.and_eq_true, flAt_spec hoi, hnfl] at hm
        cases hm.1
    · exact h.elim
termination_by pl f => (pl.length, f)
theorem Tr.drew (h : HS ρ H n w) : Tr ρ w ρ w.drew := ⟨Le.refl ρ, ⟨rfl, rfl, rfl, Nat.le_refl _, Nat.le_succ _⟩, fun g hg => ⟨rfl, hg⟩⟩
theorem drawR_in (hc : Claim P ih) {ops : Array Oper} {id : Nat} {ro : Option Nat} {m B : Nat} (hs : HS ρ H n w) (he : HE ρ a N E) (mk : Mk B ρ w a.defers) (h : Post (drawR ih P N ops E H n) B ρ w N Q) : (Code.region id ops true).wpIn (FW ro) m P Q a w := by
  unfold drawR at h
  split at h
  · rename_i hb
    unfold drawOk at hb
    simp only [Bool.and_eq_true] at hb
    obtain ⟨hm, hsel, hnd, hds, hfl, hck⟩ := hb
    have key : HT P ops (fun e a w => e = .normal ∧ Q .normal a w) ro m ops.size [] (Array.replicate ops.size false) a w.drew := ?_
    · exact wpIn_mono (Q := fun e a w => e = .normal ∧ Q .normal a w) (wpIn_region_any hm (HT.any (M := []) key)) (fun e a w hq => hq.1 ▸ hq.2)
    have hz : ∀ (j : Nat) (o : Oper) (t : TypeId), ops[j]? = some o → o.op = .alloc t → (∃ cs, zeT P t = some cs) ∧ (isFl o = true → inN N o.dst = true) := fun j o t hj ho => by
      have h1 := allB_spec hfl j (Array.getElem?_eq_some_iff.1 hj).1
      have ej : nth ops.toList j = some o := by rw [nth_eq]; simpa using hj
      simp only [ej, ho] at h1
      split at h1
      · rename_i cs hcs
        refine ⟨⟨cs, hcs⟩, fun hf => ?_⟩
        rw [hf] at h1; exact h1
      · cases h1
    have heC : HE ρ a N (clrs ops.toList E) := ⟨he.size, fun t v e => he.get t v (look_clrs e).1⟩
    refine draw_in (ρ0 := ρ) (w0 := w.drew) (w := w.drew) (D := []) (L := []) hc (Region.noSelect_spec hsel) (fun j o c hj => noDefer_mem hnd o (by have := Array.mem_of_getElem? hj; simpa using this) c) hds (fun j o hj hf => ?_) (fun j o t hj ho => ?_) (fun e a w h => h.1) _ ops.size (cnt_false _).symm (Lst.zero ops) (fun k hk => ?_) hck (Tr.refl ρ _) (HS.drew hs) heC (mk.tr (Tr.drew hs)) LdR.nil (Dn.nil _) ?_
    · obtain ⟨t, d, e1, _, _⟩ := isFl_spec hf
      exact (hz j o t hj e1).2 hf
    · obtain ⟨cs, hcs⟩ := (hz j o t hj ho).1
      obtain ⟨z, z1, z2⟩ := zeT_run hcs
      exact ⟨z, cs, z1, hcs, z2⟩
    · by_cases hlt : k < ops.size <;> simp [hlt] at hk
    · rcases drawS_norm (ih := ih) (P := P) (N := N) (ops := ops.toList) (pl := plan P ops ops.size 0) (L := []) (E := clrs ops.toList E) (H := H) (n := n) with e1 | ⟨E1, H1, n1, e1⟩
      · exact (Post.no e1 h).elim
      · rw [e1] at h ⊢
        exact fun ρ' a' w' t s e m => ⟨rfl, h ρ' a' w' ((Tr.drew hs).trans t) s e m⟩
  · exact h.elim
/-! ### code -/
def loopN (ih : X) (N : Nat) (c : Code) (k : Nat) : En → T → Nat → Re := Nat.rec (motive := fun _ => En → T → Nat → Re) (fun _ _ _ => .bad (.code (.loop c))) (fun _ again E H n => match ih N c E H n with
  | .norm E H n => again E H n
  | r => r) k
def condV (v : Option V) (c : Code) (x y : Re) : Re := match v with
  | some (.bool t) => (match t with | true => x | false => y)
  | some (.bsym q) => .bad (.pos (askC q))
  | _ => .bad (.code c)
/-- What comes behind a loop over a function. -/
def rfE (E : En) (c : Code) (r : Cr) (b : Nat) : Re := match r with
  | .ok _ H n => (match get H b with
    | .loop st pd N' E' ps' sg' bd' => (match Nat.beq st 1 with
      | true => .bad (.code c)
      | false => (match pd with
        | none => .norm E (put H b (.loop 3 pd N' E' ps' sg' bd')) n
        | some j => (match j with
          | .exit id => .exit id E (put H b (.loop 3 pd N' E' ps' sg' bd')) n
          | .ret => .ret E (put H b (.loop 3 pd N' E' ps' sg' bd')) n
          | _ => .bad (.code c))))
    | _ => .bad (.code c))
  | .bad y => .bad y
def rfV (ih : X) (P : Program) (N : Nat) (f : Operand) (ps : List Nat) (sg bd : Code) (E : En) (H : T) (n : Nat) : Re := match evV E f with
  | some (.fn (.func g) l1 l3) => rfE E (.rangeFunc f ps.toArray sg bd) (callV ih P g (app (app l1 [.yld n]) l3) (put H n (.loop 0 none N E ps sg bd)) (Nat.add n 1)) n
  | _ => .bad (.code (.rangeFunc f ps.toArray sg bd))
def body (ih : X) (P : Program) (k N : Nat) (c : Code) (E : En) (H : T) (n : Nat) : Re := match c with
  | .skip => .norm E H n
  | .label _ => .norm E H n
  | .region _ ops draw => (match draw with | false => opsR ih P N ops.toList ops.toList E H n | true => drawR ih P N ops E H n)
  | .seq x y => (match ih N x E H n with | .norm E H n => ih N y E H n | r => r)
  | .cond c x y => condV (evV E c) (.cond c x y) (ih N x E H n) (ih N y E H n)
  | .block id b => (match ih N b E H n with | .exit i E H n => (match Nat.beq i id with | true => .norm E H n | false => .exit i E H n) | r => r)
  | .loop b => loopN ih N b k E H n
  | .scope b => ih N b E H n
  | .rangeFunc f ps sg bd => rfV ih P N f ps.toList sg bd E H n
  | .exit id => .exit id E H n
  | .ret => .ret E H n
  | c => .bad (.code c)
def run (P : Program) (f : Nat) : X := Nat.rec (motive := fun _ => X) (fun _ c _ _ _ => .bad (.code c)) (fun k ih => body ih P k) f
theorem Post.mono {r : Re} {B : Nat} {Q' : Exit → Act → World → Prop} (h : Post r B ρ w N Q) (k : ∀ e a w, Q e a w → Q' e a w) : Post r B ρ w N Q' := by
  cases r with
  | norm E H n => exact fun ρ' a' w' t s e m => k _ _ _ (h ρ' a' w' t s e m)
  | exit id E H n => exact fun ρ' a' w' t s e m => k _ _ _ (h ρ' a' w' t s e m)
  | ret E H n => exact fun ρ' a' w' t s e m => k _ _ _ (h ρ' a' w' t s e m)
  | bad y => exact h
/-- What comes first, and then what follows a normal end. -/
theorem Post.then_ {r : Re} {B : Nat} {K : Act → World → Prop} (h1 : ∀ E H n, r = .norm E H n → ∀ ρ' a' w', Tr ρ w ρ' w' → HS ρ' H n w' → HE ρ' a' N E → Mk B ρ' w' a'.defers → K a' w') (h2 : (∀ E H n, r ≠ .norm E H n) → Post r B ρ w N Q) : Post r B ρ w N (Exit.then K Q) := by
  cases r with
  | norm E H n => exact h1 E H n rfl
  | exit id E H n => exact h2 (fun _ _ _ e => by cases e)
  | ret E H n => exact h2 (fun _ _ _ e => by cases e)
  | bad y => exact h2 (fun _ _ _ e => by cases e)
theorem loop_in (hc : Claim P ih) {c : Code} {ro : Option Nat} {m B : Nat} (hro : ro = none ∨ noRf c = true) : ∀ (k : Nat) {ρ : Pl} {E : En} {H : T} {n : Nat} {a : Act} {w : World}, HS ρ H n w → HE ρ a N E → Mk B ρ w a.defers → Post (loopN ih N c k E H n) B ρ w N Q → Code.roundsIn (FW ro) m P c Q k a w
  | 0, ρ, E, H, n, a, w, _, _, _, h => h.elim
  | k + 1, ρ, E, H, n, a, w, hs, he, mk, h => by
    have e : loopN ih N c (k + 1) E H n = (match ih N c E H n with | .norm E H n => loopN ih N c k E H n | r => r) := rfl
    rw [e] at h
    refine hc.2 N c E H n ro m B ρ a w _ hro hs he mk ?_
    generalize ih N c E H n = r at h
    refine Post.then_ (fun E1 H1 n1 e1 ρ' a' w' tr hs' he' mk' => ?_) fun hn => ?_
    · subst e1; exact loop_in hc hro k hs' he' mk' (h.shift tr)
    · cases r with
      | norm E H n => exact absurd rfl (hn E H n)
      | exit id E H n => exact h
      | ret E H n => exact h
      | bad y => exact h
theorem noRf_seq {x y : Code} (h : noRf (.seq x y) = true) : noRf x = true ∧ noRf y = true := by
  have e : noRf (.seq x y) = (match noRf x with | true => noRf y | false => false) := rfl
  rw [e] at h
  split at h
  · rename_i h1; exact ⟨h1, h⟩
  · cases h
theorem noRf_cond {c : Operand} {x y : Code} (h : noRf (.cond c x y) = true) : noRf x = true ∧ noRf y = true := by
  have e : noRf (.cond c x y) = (match noRf x with | true => noRf y | false => false) := rfl
  rw [e] at h
  split at h
  · rename_i h1; exact ⟨h1, h⟩
  · cases h
theorem rf_in (hc : Claim P ih) {f : Operand} {ps : Array Nat} {sg bd : Code} {m B : Nat} (hs : HS ρ H n w) (he : HE ρ a N E) (mk : Mk B ρ w a.defers) (h : Post (rfV ih P N f ps.toList sg bd E H n) B ρ w N Q) : (Code.rangeFunc f ps sg bd).wpIn (FW none) m P Q a w := by
  unfold rfV at h
  split at h
  · rename_i g l1 l3 hf
    have df := evV_den he hf
    obtain ⟨L1, L3, ef, d1, d3⟩ : ∃ L1 L3 : List Value, a.eval f = .func (.func g) L1.toArray L3.toArray ∧ DL ρ l1 L1 ∧ DL ρ l3 L3 := by
      generalize a.eval f = X at df
      cases df with
      | fn f la ha lb hb => exact ⟨_, _, rfl, ⟨la, ha⟩, ⟨lb, hb⟩⟩
    refine wpIn_rangeFunc fun fn _ => ?_
    obtain ⟨trA, hsA⟩ := Tr.alloc0 hs (.deferred (some []))
    let L : Loop := { state := .ready, pending := none, fn := fn, tmps := a.tmps, params := ps, assign := sg, body := bd, defers := w.heap.size }
    have hE : HE ρ { tmps := a.tmps, defers := [] } N E := ⟨he.size, he.get⟩
    have hal := HR.alloc hsA (.loop L) (x := .loop 0 none N E ps.toList sg bd) (z := 0) ⟨fn, a.tmps, w.heap.size, by rw [World.alloc_heap_new]; simp [stOf, L], hE.mono (hsA.le _ _)⟩
    have tr1 := trA.trans (hal.tr (hsA.le _ _))
    have hs1 := hal.self
    have hsz : (w.alloc (.deferred (some []))).heap.size = w.heap.size + 1 := by simp
    rw [hsz] at tr1 hs1
    generalize hr : callV ih P g (app (app l1 [.yld n]) l3) (put H n (.loop 0 none N E ps.toList sg bd)) (Nat.add n 1) = r at h
    cases r with
    | bad y => exact h.elim
    | ok v H2 n2 =>
      have h : Post (match get H2 n with
        | .loop st pd N' E' ps' sg' bd' => (match Nat.beq st 1 with
          | true => Re.bad (.code (.rangeFunc f ps.toList.toArray sg bd))
          | false => (match pd with
            | none => Re.norm E (put H2 n (.loop 3 pd N' E' ps' sg' bd')) n2
            | some j => (match j with
              | .exit id => Re.exit id E (put H2 n (.loop 3 pd N' E' ps' sg' bd')) n2
              | .ret => Re.ret E (put H2 n (.loop 3 pd N' E' ps' sg' bd')) n2
              | _ => Re.bad (.code (.rangeFunc f ps.toList.toArray sg bd)))))
        | _ => Re.bad (.code (.rangeFunc f ps.toList.toArray sg bd))) B ρ w N Q := h
      have dy : Den (up ρ n (w.heap.size + 1) 0) (.yld n) (.func (.yield (w.heap.size + 1)) #[] #[]) := .yld (up_new ..)
      have le1 := tr1.le
      rw [app_eq, app_eq] at hr
      have hci := call_in hc hs1 (((d1.mono le1).app (.cons dy .nil)).app (d3.mono le1)) hr (m - 1)
      have hen : ∀ args w, (callFunc g args).run P w = .ok (.enter g args) w := by
        unfold callV at hr
        split at hr
        · rename_i fn c hf; exact (funT_spec hf).2.2
        · cases hr
      refine ⟨w.heap.size + 1, [mark w.heap.size], _, { target := .fn (.func g) L3.toArray, args := (L1 ++ [Value.func (.yield (w.heap.size + 1)) #[] #[]]).toArray }, (w.alloc (.deferred (some []))).alloc (.loop L), g, ((L1 ++ [Value.func (.yield (w.heap.size + 1)) #[] #[]]) ++ L3).toArray, _, run_enterLoop_outer fn a.tmps ps sg bd, ?_, fun _ _ => trivial, ?_, fun h => (by cases h), CallsIn.mono (F := FW none) hci fun e1 w2 hR => ?_⟩
      · simp [resolve, Deferred.ofValue, ef]
        exact ⟨rfl, rfl⟩
      · simp [invoke, hen]
      · obtain ⟨ρ2, x, rfl, t2, hs2, dx⟩ := hR
        have hl2 : ρ2 n = some (w.heap.size + 1) := (t2.le n _ (up_new ..)).1
        split at h
        · rename_i st pd N' E' ps' sg' bd' hb
          split at h
          · exact h.elim
          · rename_i hst
            obtain ⟨l', hl', fn', tmps', df', hw, heL⟩ := loop_at hs2 hb
            rw [hl2] at hl'
            have := Option.some.inj hl'
            subst this
            have hlt := (Array.getElem?_eq_some_iff.1 hw).1
            obtain ⟨hs3, tr3⟩ := HS.loop hs2 (fn := fn') (df := df') (ps := ps') (sg := sg') (bd := bd') (by rw [hb]; simp) hl2 hlt heL 3 pd
            have hnb : stOf st ≠ .busy := by
              intro e
              match st, e, hst with
              | 0, e, _ => cases e
              | 1, _, hst => simp at hst
              | 2, e, _ => cases e
              | k + 3, e, _ => cases e
            have tr := tr1.trans (t2.trans tr3)
            have mk' : Mk B ρ2 (w2.putObj (w.heap.size + 1) (.loop { state := stOf 3, pending := pd, fn := fn', tmps := tmps', params := ps'.toArray, assign := sg', body := bd', defers := df' })) ([mark w.heap.size] ++ a.defers) := by
              obtain ⟨rs, k1, k2, k3⟩ := mk.ok
              have hA : Out_ (up ρ n (w.heap.size + 1) 0) ((w.alloc (.deferred (some []))).alloc (.loop L)) w.heap.size := by
                refine ⟨by simp; omega, fun b hb => ?_⟩
                rw [up_at] at hb
                by_cases hbn : b = n
                · rw [if_pos hbn] at hb; have := Option.some.inj hb; omega
                · rw [if_neg hbn] at hb; have := (hs.old b _ hb).2; omega
              have hA2 : ((w.alloc (.deferred (some []))).alloc (.loop L)).heap[w.heap.size]? = some (.deferred (some [])) := by
                show ((w.heap.push _).push _)[w.heap.size]? = _
                rw [Array.getElem?_push_lt (by simp)]; simp
              have hB := (t2.trans tr3).out _ hA
              refine ⟨⟨w.heap.size :: rs, by rw [k1]; rfl, List.nodup_cons.2 ⟨fun hm => ?_, k2⟩, fun r hr => ?_⟩, Nat.le_trans mk.low tr.ext.size⟩
              · have := (k3 _ hm).2.1.1; omega
              · rcases List.mem_cons.1 hr with rfl | hr
                · exact ⟨mk.low, hB.2, hB.1.trans hA2⟩
                · exact ⟨(k3 r hr).1, (tr.out r (k3 r hr).2.1).2, (tr.out r (k3 r hr).2.1).1.trans (k3 r hr).2.2⟩
            have he' : HE ρ2 { a with defers := [mark w.heap.size] ++ a.defers } N E := ⟨he.size, fun t v e => by obtain ⟨y, e1, d⟩ := he.get t v e; exact ⟨y, e1, d.mono tr.le⟩⟩
            refine ⟨pd, _, run_endLoop hw hnb, ?_⟩
            split at h
            · exact h ρ2 _ _ tr hs3 he' mk'
            · split at h
              · exact wpIn_exit (h ρ2 _ _ tr hs3 he' mk')
              · exact wpIn_ret (h ρ2 _ _ tr hs3 he' mk')
              · exact h.elim
        · exact h.elim
  · exact h.elim
theorem stepR_scope_ {b : Frame} {a : Act} {k : List Item} {cs : List Frame} {w : World} {c : Code} : step P (lone (b.atR a (.code (.scope c) :: k)) cs w) = .next (lone (b.atR a (.code c :: .inScope c :: k)) cs w) :=
  step_lone_go (by simp [stepG, stepG.exec, Frame.atR])
theorem stepR_inScope_ {b : Frame} {a : Act} {k : List Item} {cs : List Frame} {w : World} {c : Code} : step P (lone (b.atR a (.inScope c :: k)) cs w) = .next (lone (b.atR a k) cs w) :=
  step_lone_go (by simp [stepG, stepG.exec, Frame.atR])
/-- A scope out of which nothing jumps back. -/
theorem wpIn_scope_ {F : Fence} {n : Nat} {c : Code} (h : c.wpIn F n P (Exit.noGoto Q) a w) : (Code.scope c).wpIn F n P Q a w := by
  intro b k cs hro hb hr
  have h0 : (lone (b.atR a (.code (.scope c) :: k)) cs w).fenced P F := fenced_calm hb hr rfl
  obtain ⟨e, a₁, w₁, hq, harr⟩ := h b (.inScope c :: k) cs hro hb hr
  cases e with
  | normal => exact ⟨.normal, a₁, w₁, hq, .head h0 stepR_scope_ (StepsIn.trans harr (.one (fenced_calm hb hr rfl) stepR_inScope_))⟩
  | exit id =>
    have hx : exitTo id (.inScope c :: k) = exitTo id k := by simp [exitTo]
    exact ⟨.exit id, a₁, w₁, hq, fun k' hk => .head h0 stepR_scope_ (harr.1 k' (by rw [hx]; exact hk)),
      fun hr' hk => let ⟨k₁, h1, h2⟩ := harr.2 hr' (by rw [hx]; exact hk); ⟨k₁, h1, .head h0 stepR_scope_ h2⟩⟩
  | goto l => exact hq.elim
  | ret => exact ⟨_, a₁, w₁, hq, .of_steps (.one h0 stepR_scope_) harr⟩
  | panic ch => exact ⟨_, a₁, w₁, hq, .of_steps (.one h0 stepR_scope_) harr⟩
  | outgrown => exact ⟨_, a₁, w₁, hq, .of_steps (.one h0 stepR_scope_) harr⟩
theorem body_in (hc : Claim P ih) (k : Nat) : Claim P (body ih P k) := by
  refine ⟨hc.1, ?_⟩
  intro N c E H n ro m B ρ a w Q hro hs he mk h
  cases c with
  | skip => exact wpIn_skip (h ρ a w (Tr.refl ρ w) hs he mk)
  | label l => exact wpIn_label (h ρ a w (Tr.refl ρ w) hs he mk)
  | region id ops draw =>
    cases draw with
    | false => exact wpIn_region_list (ops_in hc hs he mk h)
    | true => exact drawR_in hc hs he mk h
  | seq x y =>
    have hx : ro = none ∨ noRf x = true := hro.imp_right fun h => (noRf_seq h).1
    have hy : ro = none ∨ noRf y = true := hro.imp_right fun h => (noRf_seq h).2
    refine wpIn_seq (hc.2 N x E H n ro m B ρ a w _ hx hs he mk ?_)
    have h' : Post (match ih N x E H n with | .norm E H n => ih N y E H n | r => r) B ρ w N Q := h
    generalize ih N x E H n = r at h'
    refine Post.then_ (fun E1 H1 n1 e1 ρ' a' w' tr hs' he' mk' => ?_) fun hn => ?_
    · subst e1; exact hc.2 N y E1 H1 n1 ro m B ρ' a' w' Q hy hs' he' mk' (h'.shift tr)
    · cases r with
      | norm E H n => exact absurd rfl (hn E H n)
      | exit id E H n => exact h'
      | ret E H n => exact h'
      | bad y => exact h'
  | cond c x y =>
    have hx : ro = none ∨ noRf x = true := hro.imp_right fun h => (noRf_cond h).1
    have hy : ro = none ∨ noRf y = true := hro.imp_right fun h => (noRf_cond h).2
    have h' : Post (condV (evV E c) (.cond c x y) (ih N x E H n) (ih N y E H n)) B ρ w N Q := h
    unfold condV at h'
    split at h'
    · rename_i t e
      refine wpIn_cond (den_bool (evV_den he e)) ?_
      cases t with
      | true => exact hc.2 N x E H n ro m B ρ a w Q hx hs he mk h'
      | false => exact hc.2 N y E H n ro m B ρ a w Q hy hs he mk h'
    · exact h'.elim
    · exact h'.elim
  | block id b =>
    refine wpIn_block (hc.2 N b E H n ro m B ρ a w _ hro hs he mk ?_)
    have h' : Post (match ih N b E H n with | .exit i E H n => (match Nat.beq i id with | true => .norm E H n | false => .exit i E H n) | r => r) B ρ w N Q := h
    generalize ih N b E H n = r at h'
    cases r with
    | norm E H n => exact h'
    | ret E H n => exact h'
    | bad y => exact h'
    | exit i E H n =>
      simp only at h'
      split at h'
      · rename_i e
        have := Nat.eq_of_beq_eq_true e
        subst this
        intro ρ' a' w' t s e m
        show (if i = i then _ else _)
        rw [if_pos rfl]
        exact h' ρ' a' w' t s e m
      · rename_i e
        have hne : i ≠ id := fun e2 => by subst e2; simp at e
        intro ρ' a' w' t s e m
        show (if i = id then _ else _)
        rw [if_neg hne]
        exact h' ρ' a' w' t s e m
  | loop b =>
    have hb : ro = none ∨ noRf b = true := hro
    exact wpIn_loop_rounds k (loop_in hc hb k hs he mk h)
  | exit id => exact wpIn_exit (h ρ a w (Tr.refl ρ w) hs he mk)
  | ret => exact wpIn_ret (h ρ a w (Tr.refl ρ w) hs he mk)
  | rangeFunc f ps l1 b =>
    rcases hro with rfl | hro
    · exact rf_in hc hs he mk h
    · cases hro
  | scope b =>
    have hb : ro = none ∨ noRf b = true := hro
    refine wpIn_scope_ (hc.2 N b E H n ro m B ρ a w _ hb hs he mk ?_)
    have h' : Post (ih N b E H n) B ρ w N Q := h
    generalize ih N b E H n = r at h'
    cases r with
    | norm E H n => exact h'
    | exit id E H n => exact h'
    | ret E H n => exact h'
    | bad y => exact h'
  | goto l => exact h.elim
  | refuse s => exact h.elim
theorem ran_in (hR : RuleOk P) : ∀ f, Claim P (run P f)
  | 0 => ⟨hR, fun N c E H n ro m B ρ a w Q hro hs he mk h => h.elim⟩
  | f + 1 => body_in (ran_in hR f) f
end
end
end Go.Proofs.YtagbmfdheppmoaaGreatDoor.Vm
