import Derived.Test.YtfcbjcohepkkfaaGreatSepA
import Derived.SizedLaws
import Derived.ChangeSlices
import Derived.ProofKit
import Derived.Deep.Slices
import Derived.Deep.Strs
import Derived.OpenShut
import Derived.Laws.Strings
import Derived.Laws.StructEq
import Derived.Sort.Walk0
/-
  More operations: addresses inside rows that came in; loads from there.
-/
namespace Go.Proofs.YtfcbjcohepkkfaaGreat.Sep
open Go.RowKit
section
variable {P : Program} {ops : Array Oper} {Q : Exit → Act → World → Prop} {K : Act → World → Prop} {a : Act} {w W : World} {L : List Chunk} {rest : List Oper} {o : Oper} {N : Nat} {E : Env} {S : World → Prop}
theorem run_fieldAddr_at {s : TypeId} {x : Operand} {fld ft off k i : Nat} {fs : Array Field} {ad : Addr} (ho : o.op = .fieldAddr s x fld) (hu : P.underlying s = some (.struct fs)) (hf : (fs[fld]?).map (fun f => (f.type, f.offset)) = some (ft, off)) (hz : ∀ w, (sizeOf ft).run P w = .ok (k + 1) w)
    (hx : evalE E x = .pointer (some (ad.add i))) : ∀ w, (execOp (evalE E) o).run P w = .ok (.value (.pointer (some (ad.add (i + off))))) w := by
  intro w
  obtain ⟨f, hf', he⟩ := Option.map_eq_some_iff.1 hf; clear hf
  obtain ⟨rfl, rfl⟩ := Prod.mk.inj he
  simp [execOp, ho, Instr.fieldAt, Instr.sureAddr, fieldPlace, hx, run_underlying hu, hf', hz, addr_add_add]
theorem run_loadAt1 {t : TypeId} {x : Operand} {k n i : Nat} {ad : Addr} {cs : List Value} {v : Value} (hr : Reads w k (some ad) n cs) (ho : o.op = .load t x) (hx : evalE E x = .pointer (some (ad.add i))) (hg : ∀ w, (isAgg t).run P w = .ok false w)
    (hv : cs[i]? = some v) : (execOp (evalE E) o).run P w = .ok (.value v) w := by
  have hc := hr.2.2 ad rfl i v hv
  exact run_load ho hx (by simp [loadVar, hg, load, Sem.run, hc])
theorem run_loadAtN {t : TypeId} {x : Operand} {k n i m : Nat} {ad : Addr} {cs : List Value} (vs : List Value) (hr : Reads w k (some ad) n cs) (ho : o.op = .load t x) (hx : evalE E x = .pointer (some (ad.add i))) (hg : ∀ w, (isAgg t).run P w = .ok true w) (hz : ∀ w, (sizeOf t).run P w = .ok m w)
    (hv : ∀ j, j < m → cs[i + j]? = vs[j]?) (hl : vs.length = m) : (execOp (evalE E) o).run P w = .ok (.value (.agg vs.toArray)) w := by
  subst hl
  have hc : (loadCells (ad.add i) vs.length).run P w = .ok vs.toArray w := run_loadCells_list (P := P) w _ vs fun j v hj => by
    rw [addr_add_add]
    refine hr.2.2 ad rfl _ _ ?_
    rw [hv j (List.getElem?_eq_some_iff.1 hj).1]
    exact hj
  exact run_load ho hx (by simp [loadVar, hg, hz, hc])
theorem ex_store_to {t : TypeId} {x y : Operand} {g of_ : Nat} {cs cs2 : List Value} {t' : TypeId} {n : Nat} (j : Nat) (vs : List Value) (s : St W L w) (he : putAt cs of_ vs = cs2) (hj : L[j]? = some (.blk g cs t')) (ho : o.op = .store t x y) (hx : evalE E x = .pointer (some ⟨g, of_, none⟩)) (hy : (evalE E y).cells = vs.toArray)
    (hz : (sizeOf t).run P w = .ok n w) (hl : vs.length = n) (h1 : ∀ v ∈ vs, v.oneCell' = true) (hn : of_ + vs.length ≤ cs.length) :
    ∃ w1, (execOp (evalE E) o).run P w = .ok .skip w1 ∧ St W (L.set j (.blk g cs2 t')) w1 := by
  subst he; exact ex_store j vs s hj ho hx hy hz hl h1 hn
theorem ex_makeSlice {t e k b n c : Nat} {kx ky : IntKind} {x y : Operand} (T : Elt P t e k b) (zs : Array Value) (hz : (P.info? e).bind (fun i => i.zero.map (·.cells)) = some zs) (s : St W L w) (ho : o.op = .makeSlice t x y)
    (hx : evalE E x = .int kx (n : Int)) (hy : evalE E y = .int ky (c : Int)) (hnc : n ≤ c) (hc63 : c ≤ 9223372036854775807) (hc : c * b ≤ 281474976710656) (hr : c * b ≤ roomBytes) :
    ∃ v w1, (execOp (evalE E) o).run P w = .ok (.value v) w1 ∧ ∃ g, v = .slice (some ⟨g, 0, none⟩) n c ∧ St W (.blk g ((Array.range (c * k)).map (zs[· % zs.size]!)).toList e :: L) w1 := by
  obtain ⟨i, hi, hinf⟩ := Option.map_eq_some_iff.1 T.info
  simp only [Prod.mk.injEq] at hinf
  obtain ⟨_, hsz, hby⟩ := hinf
  have hz' : ∃ z, i.zero = some z ∧ z.cells = zs := by
    rw [hi] at hz; simpa using hz
  obtain ⟨z, hz1, hz2⟩ := hz'
  have w1 : IntKind.i64.wrap (n : Int) = n := wrap64_in (by omega)
  have w2 : IntKind.i64.wrap (c : Int) = c := wrap64_in (by omega)
  have t1 : ¬ (281474976710656 : Int) < (b : Int) * (c : Int) := by
    have h := Int.ofNat_le.2 hc
    rw [Int.natCast_mul, Int.mul_comm] at h; omega
  have t2 : ¬ roomBytes < c * b := by omega
  have t3 : ¬ (c : Int) < (n : Int) := by omega
  have t4 : ¬ ((c : Int) < 0) := by omega
  have t5 : ¬ ((n : Int) < 0) := by omega
  have hrun : (Instr.makeSlice t (.int kx n) (.int ky c)).run P w = .ok (.slice (some ⟨w.heap.size, 0, none⟩) n c) (w.alloc (.cells ((Array.range (c * k)).map (zs[· % zs.size]!)) e)) := by
    have e0 : ∀ f : Nat → Value, Array.map f (Array.range 0) = #[] := fun f => by simp
    by_cases h0 : c * k = 0
    · simp [Instr.makeSlice, run_underlying T.under, sizeOf, typeInfo, hi, hsz, hby, h0, e0, newRow, asInt, asIntOf, w1, w2, t1, t2, t3, t4, t5, askRoom]
    · simp [Instr.makeSlice, run_underlying T.under, sizeOf, typeInfo, zeroValue, hi, hsz, hby, h0, hz1, hz2, newRow, asInt, asIntOf, w1, w2, t1, t2, t3, t4, t5, askRoom]
  refine ⟨_, _, ?_, w.heap.size, rfl, s.alloc ((Array.range (c * k)).map (zs[· % zs.size]!)).toList e⟩
  simp only [execOp, ho, hx, hy]
  rw [Array.toArray_toList]
  simp [hrun]
theorem made_one (z : Value) (n : Nat) : ((Array.range (n * 1)).map (#[z][· % #[z].size]!)).toList = List.replicate n z := by
  apply List.ext_getElem?
  intro i
  by_cases h : i < n
  · simp [h, Nat.mod_one]
  · simp [h]
theorem putAt_get : ∀ (vs cs : List Value) (o j : Nat), (putAt cs o vs)[j]? = if o ≤ j ∧ j < o + vs.length ∧ j < cs.length then vs[j - o]? else cs[j]?
  | [], cs, o, j => by simp [putAt]; omega
  | v :: vs, cs, o, j => by
    rw [putAt, putAt_get vs, List.length_set, List.length_cons]
    by_cases h1 : o ≤ j ∧ j < o + (vs.length + 1) ∧ j < cs.length
    · rw [if_pos h1]
      by_cases h2 : j = o
      · subst h2
        rw [if_neg (by omega), List.getElem?_set_self h1.2.2, Nat.sub_self]; rfl
      · rw [if_pos ⟨by omega, by omega, h1.2.2⟩, show j - o = (j - (o + 1)) + 1 by omega]; rfl
    · rw [if_neg h1, if_neg (by omega)]
      by_cases h2 : j = o
      · subst h2
        rw [List.getElem?_eq_none (by rw [List.length_set]; omega), List.getElem?_eq_none (by omega)]
      · rw [List.getElem?_set_ne (Ne.symm h2)]
/-- A store into a row that is owned. -/
theorem ex_store_own {t : TypeId} {x y : Operand} {i : Nat} {e k n c : Nat} {ad : Addr} {cs cs2 : List Value} {m : Nat} (j : Nat) (vs : List Value) (s : St W L w) (he : putAt cs i vs = cs2) (hj : L[j]? = some (Own e k (some ad) n c cs)) (ho : o.op = .store t x y) (hx : evalE E x = .pointer (some (ad.add i))) (hy : (evalE E y).cells = vs.toArray)
    (hz : (sizeOf t).run P w = .ok m w) (hl : vs.length = m) (h1 : ∀ v ∈ vs, v.oneCell' = true) (hv : vs ≠ []) (hn : i + vs.length ≤ cs.length) :
    ∃ w1, (execOp (evalE E) o).run P w = .ok .skip w1 ∧ St W (L.set j (Own e k (some ad) n c cs2)) w1 := by
  subst he
  have s1 := s.at_ hj
  obtain ⟨f1, f2, f3⟩ := Own.facts s1.1
  have hvl : 0 < vs.length := List.length_pos_iff.2 hv
  have hc : 0 < c := by
    rcases Nat.eq_zero_or_pos c with rfl | h
    · have : n = 0 := by omega
      subst this; rw [Nat.zero_mul] at f1; omega
    · exact h
  obtain ⟨g, off, all, ha, hal, har, s2⟩ := Own.open_ hc s1
  cases ha
  have hle : n * k ≤ c * k := Nat.mul_le_mul_right k f2
  rw [add_lit] at hx
  have hst := run_store (P := P) 0 s2 rfl ho hx hy hz hl h1 (by omega)
  have s3 := St.put (of_ := off + i) (vs := vs) 0 s2 rfl
  refine ⟨_, hst, ?_⟩
  have s4 : St W (.blk g (putAt all (off + i) vs) e :: L.eraseIdx j) _ := s3
  have s5 := Own.close (n := n) (k := k) (c := c) (off := off) (cs := putAt cs i vs) (by rw [length_putAt]; exact f1) f2 f3 (by rw [length_putAt]; exact hal) (fun q u hu => ?_) s4
  · exact s5.perm (perm_set hj _)
  · rw [putAt_get] at hu ⊢
    by_cases h : i ≤ q ∧ q < i + vs.length ∧ q < cs.length
    · rw [if_pos h] at hu
      rw [if_pos ⟨by omega, by omega, by omega⟩, show off + q - (off + i) = q - i by omega]; exact hu
    · rw [if_neg h] at hu
      have hq := (List.getElem?_eq_some_iff.1 hu).1
      rw [if_neg (by omega)]
      exact har q u hu
theorem Own.addr {e k : Nat} {A : Option Addr} {n c : Nat} {cs : List Value} (s : St W (Own e k A n c cs :: L) w) (hn : 0 < n * k) : ∃ ad, A = some ad := by
  have := (Own.reads s.1).2.1 hn
  cases A with
  | none => exact absurd rfl this
  | some ad => exact ⟨ad, rfl⟩
theorem Reads.addr {k : Nat} {A : Option Addr} {n : Nat} {cs : List Value} (s : Reads w k A n cs) (hn : 0 < n * k) : ∃ ad, A = some ad := by
  have := s.2.1 hn
  cases A with
  | none => exact absurd rfl this
  | some ad => exact ⟨ad, rfl⟩
end
end Go.Proofs.YtfcbjcohepkkfaaGreat.Sep

/-
  What came in: memory as it was when the call began, which nobody writes; slices of whole numbers among the arguments.
-/
namespace Go.Proofs.YtfcbjcohepkkfaaGreat.Sep
open Go.RowKit Go.ChangeShapes Go.WideShapes
set_option linter.unusedVariables false

/-- Memory as it was in W. -/
def Old (W : World) : Chunk := .oth fun h => ∀ g, g < W.heap.size → h g = W.heap[g]?
theorem Old.start (W : World) : St W [Old W] W :=
  ⟨⟨hp W, fun _ => none, fun _ => .inr rfl, Hp.sub.refl _, fun _ _ e => (by cases e), fun g _ => rfl, trivial⟩, Ext.refl W⟩
theorem Old.block {W w : World} {L : List Chunk} (s : Sat (Old W :: L) w) (g : Nat) (hg : g < W.heap.size) : w.heap[g]? = W.heap[g]? := by
  obtain ⟨h1, h2, a, s1, s2, x, y⟩ := s
  cases e : W.heap[g]? with
  | none => simp at e; omega
  | some o => exact s1 g o ((x g hg).trans e)
theorem Old.below {W w : World} {L : List Chunk} (s : St W (Old W :: L) w) : Below W.heap.size W w :=
  ⟨s.2.os, s.2.tape, s.2.output, s.2.size, fun g hg => Old.block s.1 g hg⟩
theorem Old.cell {W w : World} {L : List Chunk} (s : Sat (Old W :: L) w) {a : Addr} {v : Value} (h : W.cell? a = some v) : w.cell? a = some v := by
  have hg : a.block < W.heap.size := by
    unfold World.cell? at h
    cases e : W.heap[a.block]? with
    | none => rw [e] at h; cases h
    | some o => exact lt_of_blk e
  unfold World.cell? at *
  rw [Old.block s _ hg]
  exact h
/-- What could be read at the start can be read ever since. -/
theorem Old.reads {W : World} {L : List Chunk} {k : Nat} {A : Option Addr} {n : Nat} {cs : List Value} (h : Reads W k A n cs) : Knows (Old W :: L) fun w => Reads w k A n cs :=
  fun w s => ⟨h.1, h.2.1, fun ad e j u hu => Old.cell s (h.2.2 ad e j u hu)⟩

theorem Old.all {W : World} {L : List Chunk} : Knows (Old W :: L) fun w => ∀ k A n cs, Reads W k A n cs → Reads w k A n cs := fun w s _ _ _ _ h => Old.reads h w s

end Go.Proofs.YtfcbjcohepkkfaaGreat.Sep

/-
  Data that came in, opened by its type: whole numbers, Booleans, strings, structs, slices of whatever.
-/
namespace Go.Proofs.YtfcbjcohepkkfaaGreat.Sep
open Go.RowKit Go.ChangeShapes Go.WideShapes Go.Deep
set_option linter.unusedVariables false

/-- Cells that came in as data of type t. -/
def Came (P : Program) (W : World) (t : TypeId) (cs : List Value) : Prop :=
  ∃ (H : Type) (enc : TypeId × Value → H) (base : Nat) (spare : Nat → Bool) (held : Bool) (fuel : Nat) (d : DataW H) (pl : List MemPlace), DataW.trod enc P W base spare held fuel t cs = some (d, pl) ∧ ∀ m ∈ d.weights P t, m ≤ 140737488351232
section
variable {P : Program} {W : World} {t e : TypeId} {cs : List Value}
theorem Came.arg {H : Type} {enc : TypeId × Value → H} {base : Nat} {spare : Nat → Bool} {held : Bool} {v : Value} {d : DataW H} {ps : List MemPlace} {ts : List TypeId} {ds : List (DataW H)} {j : Nat}
    (hsz : (DataW.weightsEach P ts ds).all (· ≤ reachBytes) = true) (ht : ts[j]? = some t) (hd : ds[j]? = some d) (h : DataW.Trod enc P W base spare held t v d ps) : Came P W t v.cells.toList := by
  obtain ⟨fuel, hf⟩ := h
  refine ⟨H, enc, base, spare, held, fuel, d, ps, hf, fun m hm => ?_⟩
  have := List.all_eq_true.1 hsz _ (DataW.weights_mem_each ht hd m hm)
  have hb : reachBytes = 140737488351232 ∨ reachBytes ≤ 140737488351232 := by decide
  have := of_decide_eq_true this
  rcases hb with hb | hb <;> omega
theorem Came.int {k : IntKind} (ht : P.underlying t = some (.int k)) (h : Came P W t cs) : ∃ z, cs = [.int k z] ∧ (Lit.int k z).wf = true := by
  obtain ⟨H, enc, base, spare, held, fuel, d, pl, h, hw⟩ := h
  obtain ⟨z, rfl, _, w⟩ := DataW.trod_int ht h
  exact ⟨z, rfl, w⟩
theorem Came.bool (ht : P.underlying t = some .bool) (h : Came P W t cs) : ∃ b, cs = [.bool b] := by
  obtain ⟨H, enc, base, spare, held, fuel, d, pl, h, hw⟩ := h
  obtain ⟨b, rfl, _⟩ := DataW.trod_bool ht h
  exact ⟨b, rfl⟩
theorem Came.string (ht : P.underlying t = some .string) (h : Came P W t cs) : ∃ s : ByteArray, cs = [.string s] ∧ s.size ≤ 140737488351232 := by
  obtain ⟨H, enc, base, spare, held, fuel, d, pl, h, hw⟩ := h
  obtain ⟨s, rfl, hx, hm⟩ := DataW.trod_string ht h
  obtain ⟨rfl, rfl⟩ := Prod.mk.inj hx
  refine ⟨s, rfl, ?_⟩
  have := hw _ (by simp [DataW.weights]; rfl)
  simpa using this
theorem weights_each {H : Type} : ∀ {ts : List TypeId} {ds : List (DataW H)} {i : Nat} {t : TypeId} {d : DataW H}, ts[i]? = some t → ds[i]? = some d → ∀ m ∈ d.weights P t, m ∈ DataW.weightsEach P ts ds := DataW.weights_mem_each
theorem weights_all {H : Type} : ∀ {ds : List (DataW H)} {d : DataW H}, d ∈ ds → ∀ m ∈ d.weights P e, m ∈ DataW.weightsAll P e ds
  | a :: r, d, hd, m, hm => by
    simp only [DataW.weightsAll, List.mem_append]
    rcases List.mem_cons.1 hd with rfl | hd
    · exact .inl hm
    · exact .inr (weights_all hd m hm)
theorem Came.struct {fs : Array Field} (ht : P.underlying t = some (.struct fs)) (h : Came P W t cs) : cs.length = P.cellsOf t ∧ ∀ (i : Nat) (f : Field), fs[i]? = some f → Came P W f.type ((cs.drop f.offset).take (P.cellsOf f.type)) := by
  obtain ⟨H, enc, base, spare, held, fuel, d, pl, h, hw⟩ := h
  obtain ⟨xs, n, _, hx, hl, hlen, hf⟩ := DataW.trod_struct ht h
  obtain ⟨rfl, rfl⟩ := Prod.mk.inj hx
  refine ⟨hl, fun i f hi => ?_⟩
  have h1 := hf i f hi
  have hil : i < xs.length := by rw [hlen]; exact (Array.getElem?_eq_some_iff.1 hi).1
  rw [List.getElem?_eq_getElem hil] at h1
  refine ⟨H, enc, base, spare, held, n, xs[i].1, xs[i].2, h1, fun m hm => hw m ?_⟩
  simp only [DataW.weights, ht]
  exact weights_each (i := i) (t := f.type) (d := xs[i].1) (by simp [hi]) (by simp [hil]) m hm
theorem flatten_at {k : Nat} : ∀ {rows : List (List Value)} (_ : ∀ r ∈ rows, r.length = k) {i : Nat} {r : List Value} (_ : rows[i]? = some r) {j : Nat} (_ : j < k), rows.flatten[i * k + j]? = r[j]?
  | a :: rows, h, 0, r, hi, j, hj => by
    simp only [List.getElem?_cons_zero, Option.some.injEq] at hi
    subst hi
    have := h a (by simp)
    rw [Nat.zero_mul, Nat.zero_add, List.flatten_cons, List.getElem?_append_left (by omega)]
  | a :: rows, h, i + 1, r, hi, j, hj => by
    have ha := h a (by simp)
    rw [List.flatten_cons, Nat.add_mul, Nat.one_mul, List.getElem?_append_right (by omega), show i * k + k + j - a.length = i * k + j by omega]
    exact flatten_at (fun r hr => h r (by simp [hr])) (by simpa using hi) hj
theorem flatten_len {k : Nat} : ∀ {rows : List (List Value)} (_ : ∀ r ∈ rows, r.length = k), rows.flatten.length = rows.length * k
  | [], _ => by simp
  | a :: rows, h => by
    have := flatten_len (rows := rows) fun r hr => h r (by simp [hr])
    have := h a (by simp)
    rw [List.flatten_cons, List.length_append, List.length_cons, Nat.add_mul]; omega
theorem flatten_div {k : Nat} {rows : List (List Value)} (h : ∀ r ∈ rows, r.length = k) {x : Nat} {u : Value} (hx : rows.flatten[x]? = some u) : ∃ i r j, rows[i]? = some r ∧ j < k ∧ x = i * k + j ∧ r[j]? = some u := by
  have hl := (List.getElem?_eq_some_iff.1 hx).1
  rw [flatten_len h] at hl
  have hk : 0 < k := by
    rcases Nat.eq_zero_or_pos k with rfl | hk
    · simp at hl
    · exact hk
  have hi : x / k < rows.length := (Nat.div_lt_iff_lt_mul hk).2 hl
  have hj : x % k < k := Nat.mod_lt _ hk
  have e : x = x / k * k + x % k := by rw [Nat.mul_comm]; exact (Nat.div_add_mod x k).symm
  refine ⟨x / k, rows[x / k], x % k, List.getElem?_eq_getElem hi, hj, e, ?_⟩
  rw [← flatten_at h (List.getElem?_eq_getElem hi) hj, ← e]
  exact hx
theorem Came.slice {k B : Nat} (ht : P.underlying t = some (.slice e)) (hk : P.cellsOf e = k) (hB : P.bytesOf e = B) (h : Came P W t cs) :
    ∃ A n c, cs = [.slice A n c] ∧ n ≤ c ∧ n * B ≤ 140737488351232 ∧ ∃ rows : List (List Value), rows.length = n ∧ Reads W k A n rows.flatten ∧ ∀ r ∈ rows, r.length = k ∧ Came P W e r := by
  obtain ⟨H, enc, base, spare, held, fuel, d, pl, h, hw⟩ := h
  rcases open_slice ht h with ⟨rfl, hx⟩ | ⟨a, len, cap, m, n, D, Pl, rfl, hb, hl, hm, hmm, hx, hel⟩
  · exact ⟨none, 0, 0, rfl, Nat.le_refl _, by simp, [], rfl, ⟨by simp, by simp, by simp⟩, by simp⟩
  · obtain ⟨rfl, rfl⟩ := Prod.mk.inj hx
    have hlm : len ≤ m := by rw [hmm]; split <;> omega
    obtain ⟨f, hf⟩ := choose_lt (α := List Value) (p := fun i cs' => W.cells? base (a.add (i * P.cellsOf e)) (P.cellsOf e) = some cs' ∧ DataW.trod enc P W base spare held n e cs' = some (D i, Pl i)) hel
    rw [hk] at hf
    have hlen : ∀ i, i < len → (f i).length = k := fun i hi => (World.cells?_some (hf i (by omega)).1).2.1
    have hall : ∀ r ∈ (List.range len).map f, r.length = k := by
      intro r hr
      obtain ⟨i, hi, rfl⟩ := List.mem_map.1 hr
      exact hlen i (List.mem_range.1 hi)
    refine ⟨some a, len, cap, rfl, hl, ?_, (List.range len).map f, by simp, ⟨?_, by simp, ?_⟩, fun r hr => ⟨hall r hr, ?_⟩⟩
    · have := hw ((((List.range len).map D).length + ((List.range (m - len)).map fun j => D (len + j)).length) * P.bytesOf e) (by simp [DataW.weights, ht])
      rw [hB] at this
      refine Nat.le_trans (Nat.mul_le_mul_right B ?_) this
      simp
    · rw [flatten_len hall]; simp
    · intro ad ea j u hu
      cases ea
      obtain ⟨i, r, j', hi, hj, rfl, hr⟩ := flatten_div hall hu
      obtain ⟨hil, hir⟩ := List.getElem?_eq_some_iff.1 hi
      simp at hil hir
      subst hir
      have := (World.cells?_some (hf i (by omega)).1).2.2 j' hj
      rw [← addr_add_add, this]
      exact hr
    · obtain ⟨i, hi, rfl⟩ := List.mem_map.1 hr
      have hi := List.mem_range.1 hi
      refine ⟨H, enc, base, spare, held, n, D i, Pl i, (hf i (by omega)).2, fun m' hm' => hw m' ?_⟩
      simp only [DataW.weights, ht]
      refine List.mem_cons_of_mem _ (List.mem_append.2 (.inl (weights_all (d := D i) ?_ m' hm')))
      exact List.mem_map.2 ⟨i, List.mem_range.2 hi, rfl⟩
/-- Rows that are all spelt by f. -/
theorem spelt {α β : Type} {f : α → β} {p : α → Prop} : ∀ {rows : List β} (_ : ∀ r ∈ rows, ∃ v, r = f v ∧ p v), ∃ vs : List α, rows = vs.map f ∧ ∀ v ∈ vs, p v
  | [], _ => ⟨[], rfl, by simp⟩
  | r :: rows, h => by
    obtain ⟨v, hv, pv⟩ := h r (by simp)
    obtain ⟨vs, hvs, pvs⟩ := spelt (rows := rows) fun r hr => h r (by simp [hr])
    exact ⟨v :: vs, by rw [hv, hvs]; rfl, fun x hx => by
      rcases List.mem_cons.1 hx with rfl | hx
      · exact pv
      · exact pvs x hx⟩
end
end Go.Proofs.YtfcbjcohepkkfaaGreat.Sep

/-
  Strings as lists of bytes: their order, their length, what is laid behind.
-/
namespace Go.Proofs.YtfcbjcohepkkfaaGreat.Sep
open Go.RowKit
set_option linter.unusedVariables false

def str (x : List UInt8) : ByteArray := ⟨x.toArray⟩
theorem str_list (x : List UInt8) : (str x).toList = x := ByteArray.toList_mk x
theorem str_size (x : List UInt8) : (str x).size = x.length := rfl
theorem str_of (b : ByteArray) : b = str b.data.toList := by cases b; rfl
theorem str_inj {x y : List UInt8} (h : str x = str y) : x = y := by rw [← str_list x, ← str_list y, h]
theorem str_append (x y : List UInt8) : str x ++ str y = str (x ++ y) := ByteArray.mk_append_mk x y
section
variable {P : Program} {ops : Array Oper} {a : Act} {w W : World} {L : List Chunk} {o : Oper} {N : Nat} {E : Env}
theorem eqb_str (x y : List UInt8) : (str x == str y) = decide (x = y) := by
  rw [beq_toListBytes, str_list, str_list]
  by_cases h : x = y <;> simp [h]
theorem run_slss {xt yt : TypeId} {x y : Operand} {p q : List UInt8} (ho : o.op = .binOp .lss xt x y yt) (hx : evalE E x = .string (str p)) (hy : evalE E y = .string (str q)) :
    ∀ w, (execOp (evalE E) o).run P w = .ok (.value (.bool (decide (p < q)))) w := by
  intro w; simp [execOp, ho, hx, hy, binOp, eqGuard, Op.stringOp, str_list, Go.Proofs.bytesLess_eq]
theorem le_or (p q : List UInt8) : (decide (p < q) || p == q) = decide (p ≤ q) := by
  by_cases h1 : p < q
  · have : p ≤ q := by grind
    simp [h1, this]
  · by_cases h2 : p = q
    · subst h2; simp [h1]
    · have : ¬ p ≤ q := by grind
      simp [h1, h2, this]
theorem run_sleq {xt yt : TypeId} {x y : Operand} {p q : List UInt8} (ho : o.op = .binOp .leq xt x y yt) (hx : evalE E x = .string (str p)) (hy : evalE E y = .string (str q)) :
    ∀ w, (execOp (evalE E) o).run P w = .ok (.value (.bool (decide (p ≤ q)))) w := by
  intro w; rw [← le_or]; simp [execOp, ho, hx, hy, binOp, eqGuard, Op.stringOp, str_list, Go.Proofs.bytesLess_eq]
theorem run_sgeq {xt yt : TypeId} {x y : Operand} {p q : List UInt8} (ho : o.op = .binOp .geq xt x y yt) (hx : evalE E x = .string (str p)) (hy : evalE E y = .string (str q)) :
    ∀ w, (execOp (evalE E) o).run P w = .ok (.value (.bool (decide (q ≤ p)))) w := by
  intro w
  have e : decide (q ≤ p) = !decide (p < q) := by
    by_cases h1 : p < q
    · have : ¬ q ≤ p := by grind
      simp [h1, this]
    · have : q ≤ p := by grind
      simp [h1, this]
  rw [e]; simp [execOp, ho, hx, hy, binOp, eqGuard, Op.stringOp, str_list, Go.Proofs.bytesLess_eq]
theorem run_seql {xt yt : TypeId} {x y : Operand} {p q : List UInt8} (ho : o.op = .binOp .eql xt x y yt) (hx : evalE E x = .string (str p)) (hy : evalE E y = .string (str q)) :
    ∀ w, (execOp (evalE E) o).run P w = .ok (.value (.bool (decide (p = q)))) w := by
  intro w
  have e : decide (p = q) = (p == q) := by by_cases h : p = q <;> simp [h]
  rw [e]; simp [execOp, ho, hx, hy, binOp, eqGuard, Op.stringOp, str_list]
theorem run_sadd {xt yt : TypeId} {x y : Operand} {p q : List UInt8} (ho : o.op = .binOp .add xt x y yt) (hx : evalE E x = .string (str p)) (hy : evalE E y = .string (str q)) (hl : p.length + q.length ≤ 9223372036854775807) :
    ∀ w, (execOp (evalE E) o).run P w = .ok (.value (.string (str (p ++ q)))) w := by
  intro w
  rw [← str_append]
  have h1 : ¬ (IntKind.i64.max < ((str p).size + (str q).size : Int)) := by
    have e : IntKind.i64.max = 9223372036854775807 := by decide
    rw [e, str_size, str_size]; omega
  simp [execOp, ho, hx, hy, binOp, eqGuard, Op.stringOp, h1]
  rw [str_size, str_size]; omega
end
end Go.Proofs.YtfcbjcohepkkfaaGreat.Sep
