import Derived.Test.YtagbmfdheppmoaaGreatDoorVmT
/-
  Operations whose operands are open; conversions of texts and bytes; maps.
-/
namespace Go.Proofs.YtagbmfdheppmoaaGreatDoor.Vm
set_option linter.unusedVariables false
set_option linter.unusedSimpArgs false
set_option linter.unusedSectionVars false
open Go.RowKit Go.Proofs.YtagbmfdheppmoaaGreatDoor.Sep
noncomputable section
variable [Vl]
section
variable {P : Program} {Fr : Nat → Prop} {W w : World} {ρ : Pl} {H : T} {n : Nat} {a : Act} {N : Nat} {E : En} {o : Oper}
/-! ### two operands -/
def flipE (op : BinOp) (b : Bool) : Option V := match op with | .eql => some (.bool b) | .neq => some (.bool (!b)) | _ => none
def binY (P : Program) (op : BinOp) (t : TypeId) (x y : V) : Option V := match symI x with
  | some (k, a) => (match symI y with | some (k', b) => binS op k k' a b | none => none)
  | none => (match symS x with
    | some p => (match symS y with | some q => strS op p q | none => none)
    | none => (match x with
      | .agg xs => (match y with
        | .agg ys => (match P.eqGuardType P.depth t with
          | false => (match eqD P 10000 t (.agg xs) (.agg ys) with | some b => flipE op b | none => none)
          | true => none)
        | _ => none)
      | _ => none))
theorem pur_binY (he : HE ρ a N E) {op : BinOp} {t u : TypeId} {x y : Operand} {v vx vy : V} (ho : o.op = .binOp op t x y u) (hx : evV E x = some vx) (hy : evV E y = some vy) (h : binY P op t vx vy = some v) : Pur P ρ a o v := by
  have dx := evV_den he hx
  have dy := evV_den he hy
  unfold binY at h
  split at h
  · rename_i k b hi
    have ex := symI_den hi dx
    split at h
    · rename_i k' c hj
      have ey := symI_den hj dy
      obtain ⟨r, h1, d⟩ := binS_run (P := P) (xt := t) (ρ := ρ) h
      exact pur_val (r := r) (fun w => by simp [execOp, ho, ex, ey, eqGuard, h1]) d
    · cases h
  · split at h
    · rename_i p hi
      have ex := symS_den hi dx
      split at h
      · rename_i q hj
        have ey := symS_den hj dy
        obtain ⟨r, h1, d⟩ := strS_run (P := P) (ρ := ρ) h
        exact pur_val (r := r) (fun w => by simp [execOp, ho, ex, ey, eqGuard, binOp, h1]) d
      · cases h
    · split at h
      · rename_i xs _ _
        split at h
        · rename_i ys _
          split at h
          · rename_i hm
            split at h
            · rename_i b hb
              obtain ⟨As, ex, d1⟩ := dx.ofAgg
              obtain ⟨Bs, ey, d2⟩ := dy.ofAgg
              have hr := fun w => eqD_run (ρ := ρ) 10000 t _ _ b (.agg As.toArray) (.agg Bs.toArray) w hb d1.agg d2.agg
              have hg := fun op w => run_eqGuard_agg (P := P) w op t x y As.toArray Bs.toArray hm
              unfold flipE at h
              split at h
              · cases h
                refine pur_val (r := .bool b) (fun w => ?_) (.bool _)
                simp [execOp, ho, ex, ey, hg, run_eql_struct, hr, Result.andThen]
              · cases h
                refine pur_val (r := .bool (!b)) (fun w => ?_) (.bool _)
                simp [execOp, ho, ex, ey, hg, run_neq_struct, hr, Result.andThen]
              · cases h
            · cases h
          · cases h
        · cases h
      · cases h
/-! ### one operand -/
def notC (c : Cn) : Cn := match c with | .pos a => .pos (afSub ⟨1, []⟩ a) | .zero a => .nzero a | .nzero a => .zero a
theorem notC_eval (c : Cn) : (notC c).eval = !c.eval := by
  cases c with
  | pos a =>
    show decide (0 < (afSub ⟨1, []⟩ a).eval) = !decide (0 < a.eval)
    rw [afSub_eval, lit_eval]
    by_cases h : 0 < a.eval
    · rw [decide_eq_true h, decide_eq_false (by omega)]; rfl
    · rw [decide_eq_false h, decide_eq_true (by omega)]; rfl
  | zero a => rfl
  | nzero a => show decide (a.eval = 0) = !(!decide (a.eval = 0)); simp
def convI (P : Program) (s d : TypeId) (v : V) : Option V := match unT P s with
  | some _ => (match unT P d with
    | some (.int k') => (match symI v with | some (_, a) => mkW k' (wrapA k' a) | none => none)
    | _ => none)
  | none => none
def selB (l : List Af) (i : Nat) : Option V := match nth l i with | some a => (match inB a with | true => some (mkI .u8 a) | false => none) | none => none
/-- What an operation yields that looks at no memory, where its operands are open. -/
def opY (P : Program) (E : En) (o : Oper) : Option V := match o.op with
  | .binOp op t x y _ => (match evV E x with | some v => (match evV E y with | some w => binY P op t v w | none => none) | none => none)
  | .unOp u _ x => (match u with | .not => (match evV E x with | some (.bsym c) => some (cnV (notC c)) | _ => none) | _ => none)
  | .convert s d x => (match evV E x with | some v => convI P s d v | none => none)
  | .index t x i => (match evV E x with
    | some (.ystr l) => (match natV (evV E i) with
      | some j => (match unT P t with | some .string => selB l j | _ => none)
      | none => none)
    | _ => none)
  | .slice t x lo hi none => (match evV E x with
    | some (.ystr l) => (match unT P t with
      | some .string => (match three E lo hi none (len l) (len l) with | some (p, q, _) => some (mkS (takeN (Nat.sub q p) (dropN p l))) | none => none)
      | _ => none)
    | _ => none)
  | .call c => (match c.callee with
    | .builtin b => (match c.args.toList with
      | [x] => (match c.argTypes.toList with
        | [t] => (match b with
          | .len => (match evV E x with
            | some (.ystr l) => (match unT P t with | some .string => some (.int .i64 (.ofNat (len l))) | _ => none)
            | _ => none)
          | _ => none)
        | _ => none)
      | [x, y] => (match evV E x with
        | some vx => (match evV E y with
          | some vy => (match symI vx with
            | some (k, p) => (match symI vy with
              | some (_, q) => (match b with
                | .max => (match decP (afSub q p) with | some t => some (mkI k (bif t then q else p)) | none => none)
                | .min => (match decP (afSub p q) with | some t => some (mkI k (bif t then q else p)) | none => none)
                | _ => none)
              | none => none)
            | none => none)
          | none => none)
        | none => none)
      | _ => none)
    | _ => none)
  | _ => none
theorem yB_size (l : List Af) : (yB l).size = l.length := by unfold yB; show (l.map Af.byte).toArray.size = _; simp
theorem opY_pur (he : HE ρ a N E) {v : V} (h : opY P E o = some v) : Pur P ρ a o v := by
  unfold opY at h
  split at h
  · rename_i op t x y u ho
    split at h
    · rename_i vx hx
      split at h
      · rename_i vy hy
        exact pur_binY he ho hx hy h
      · cases h
    · cases h
  · rename_i u t x ho
    split at h
    · split at h
      · rename_i c hx
        have ex : a.eval x = .bool c.eval := by have := evV_den he hx; generalize a.eval x = X at this; cases this; rfl
        cases h
        exact pur_val (r := .bool (!c.eval)) (fun w => by simp [execOp, ho, ex, Op.unary]) (by rw [← notC_eval]; exact cnV_den ρ _)
      · cases h
    · cases h
  · rename_i s d x ho
    split at h
    · rename_i vx hx
      unfold convI at h
      split at h
      · rename_i us hus
        split at h
        · rename_i k' hud
          split at h
          · rename_i k b hi
            have ex := symI_den hi (evV_den he hx)
            obtain ⟨c, h1, rfl⟩ := mkW_some h
            have := wrapA_eval h1
            refine pur_val (r := .int k' (k'.wrap b.eval)) (fun w => ?_) (by rw [← this]; exact mkI_den ρ k' c)
            simp [execOp, ho, ex, convert, un_run hus, un_run hud, Conv.intToInt]
          · cases h
        · cases h
      · cases h
    · cases h
  · rename_i t x i ho
    split at h
    · rename_i l hx
      have ex := symS_den (v := .ystr l) rfl (evV_den he hx)
      split at h
      · rename_i j hj
        obtain ⟨kd, hix⟩ := natV_den he hj
        split at h
        · rename_i hu
          unfold selB at h
          split at h
          · rename_i b hb
            split at h
            · rename_i hin
              cases h
              rw [nth_eq] at hb
              obtain ⟨h1, h2⟩ := List.getElem?_eq_some_iff.1 hb
              have h3 : j < (yB l).size := by rw [yB_size]; exact h1
              have h4 : (yB l)[j] = b.byte := by
                have h5 : j < (l.map Af.byte).length := by simpa using h1
                have h6 : (yB l)[j] = (l.map Af.byte)[j]'h5 := rfl
                exact h6.trans (by rw [List.getElem_map, h2])
              refine pur_val (r := .int .u8 b.eval) (fun w => ?_) (mkI_den ρ _ b)
              simp [execOp, ho, ex, hix, Instr.index, asIntOf, un_run hu, h3, h4]
              exact (inB_byte hin).1
            · cases h
          · cases h
        · cases h
      · cases h
    · cases h
  · rename_i t x lo hi ho
    split at h
    · rename_i l hx
      have ex := symS_den (v := .ystr l) rfl (evV_den he hx)
      split at h
      · rename_i hu
        split at h
        · rename_i p q m e3
          obtain ⟨b1, b2, b3, b4, b5, b6, b7⟩ := three_spec e3
          cases h
          have hm : len l = m := Option.some.inj b1
          subst hm
          have hb := fun w => bounds_run (P := P) (w := w) (sl := false) (ln := len l) (cap := len l) (mx := none) he rfl b2 b3 b4 b5 b6 b7
          refine pur_val (r := .string (yB ((l.drop p).take (q - p)))) (fun w => ?_) (by rw [takeN_eq, dropN_eq]; exact mkS_den ρ _)
          have ez : (yB l).size = len l := by rw [yB_size, len_eq]
          have ee : (yB l).extract p q = yB ((l.drop p).take (q - p)) := by
            apply ByteArray.ext
            unfold yB
            simp [List.extract_eq_take_drop, List.map_take, List.map_drop]
          simp only [Option.map_none] at hb
          simp [execOp, ho, Instr.sliceAt, Instr.slice, un_run hu, ex, ez, hb, ee]
        · cases h
      · cases h
    · cases h
  · rename_i c ho
    obtain ⟨cal, args, ts⟩ := c
    simp only at h
    split at h
    · rename_i b
      split at h
      · rename_i x ha
        split at h
        · rename_i t ht
          have e1 : args = #[x] := by apply Array.ext'; rw [ha]
          have e2 : ts = #[t] := by apply Array.ext'; rw [ht]
          subst e1
          subst e2
          split at h
          · split at h
            · rename_i l hx
              have ex := symS_den (v := .ystr l) rfl (evV_den he hx)
              split at h
              · rename_i hu
                cases h
                refine pur_val (r := .int .i64 ((len l : Nat) : Int)) (fun w => ?_) (.int ..)
                have ez : (yB l).size = len l := by rw [yB_size, len_eq]
                simp [execOp, ho, resolve, invoke, builtin, Builtin.len_, un_run hu, ex, ez, goInt]
              · cases h
            · cases h
          · cases h
        · cases h
      · rename_i x y ha
        have e1 : args = #[x, y] := by apply Array.ext'; rw [ha]
        subst e1
        split at h
        · rename_i vx hx
          split at h
          · rename_i vy hy
            split at h
            · rename_i k p hi
              have ex := symI_den hi (evV_den he hx)
              split at h
              · rename_i k' q hj
                have ey := symI_den hj (evV_den he hy)
                split at h
                · split at h
                  · rename_i t hd
                    cases h
                    have := decP_eq hd
                    rw [afSub_eval] at this
                    have e3 : (bif t then q else p).eval = if q.eval > p.eval then q.eval else p.eval := by
                      by_cases h0 : q.eval > p.eval
                      · rw [decide_eq_true (by omega)] at this; subst this; rw [if_pos h0]; rfl
                      · rw [decide_eq_false (by omega)] at this; subst this; rw [if_neg h0]; rfl
                    refine pur_val (r := .int k (bif t then q else p).eval) (fun w => ?_) (mkI_den ρ k _)
                    rw [e3]
                    simp [execOp, ho, resolve, invoke, builtin, Builtin.max_, Builtin.max2, ex, ey]
                  · cases h
                · split at h
                  · rename_i t hd
                    cases h
                    have := decP_eq hd
                    rw [afSub_eval] at this
                    have e3 : (bif t then q else p).eval = if q.eval < p.eval then q.eval else p.eval := by
                      by_cases h0 : q.eval < p.eval
                      · rw [decide_eq_true (by omega)] at this; subst this; rw [if_pos h0]; rfl
                      · rw [decide_eq_false (by omega)] at this; subst this; rw [if_neg h0]; rfl
                    refine pur_val (r := .int k (bif t then q else p).eval) (fun w => ?_) (mkI_den ρ k _)
                    rw [e3]
                    simp [execOp, ho, resolve, invoke, builtin, Builtin.min_, Builtin.min2, ex, ey]
                  · cases h
                · cases h
              · cases h
            · cases h
          · cases h
        · cases h
      · cases h
    · cases h
  · cases h
end
end
end Go.Proofs.YtagbmfdheppmoaaGreatDoor.Vm
