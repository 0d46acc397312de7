import Derived.Test.YtagbmfdheppmoaaGreatDoorSepX
/-
  More operations: addresses inside rows that came in; loads from there.
-/
namespace Go.Proofs.YtagbmfdheppmoaaGreatDoor.Sep
open Go.RowKit
section
variable {P : Program} {ops : Array Oper} {Q : Exit → Act → World → Prop} {K : Act → World → Prop} {a : Act} {w W : World} {L : List Chunk} {rest : List Oper} {o : Oper} {N : Nat} {E : Env} {S : World → Prop}
theorem run_fieldAddr_at {s : TypeId} {x : Operand} {fld ft off k i : Nat} {fs : Array Field} {ad : Addr} (ho : o.op = .fieldAddr s x fld) (hu : P.underlying s = some (.struct fs)) (hf : (fs[fld]?).map (fun f => (f.type, f.offset)) = some (ft, off)) (hz : ∀ w, (sizeOf ft).run P w = .ok (k + 1) w)
    (hx : evalE E x = .pointer (some (ad.add i))) : ∀ w, (execOp (evalE E) o).run P w = .ok (.value (.pointer (some (ad.add (i + off))))) w := by
  intro w
  obtain ⟨f, hf', he⟩ := Option.map_eq_some_iff.1 hf; clear hf
  obtain ⟨rfl, rfl⟩ := Prod.mk.inj he
  simp [execOp, ho, Instr.fieldAt, Instr.sureAddr, fieldPlace, hx, run_underlying hu, hf', hz, addr_add_add]
theorem run_loadAt1 {t : TypeId} {x : Operand} {k n i : Nat} {ad : Addr} {cs : List Value} {v : Value} (hr : Reads w k (some ad) n cs) (ho : o.op = .load t x) (hx : evalE E x = .pointer (some (ad.add i))) (hg : ∀ w, (isAgg t).run P w = .ok false w)
    (hv : cs[i]? = some v) : (execOp (evalE E) o).run P w = .ok (.value v) w := by
  have hc := hr.2.2 ad rfl i v hv
  exact run_load ho hx (by simp [loadVar, hg, load, Sem.run, hc])
theorem run_loadAtN {t : TypeId} {x : Operand} {k n i m : Nat} {ad : Addr} {cs : List Value} (vs : List Value) (hr : Reads w k (some ad) n cs) (ho : o.op = .load t x) (hx : evalE E x = .pointer (some (ad.add i))) (hg : ∀ w, (isAgg t).run P w = .ok true w) (hz : ∀ w, (sizeOf t).run P w = .ok m w)
    (hv : ∀ j, j < m → cs[i + j]? = vs[j]?) (hl : vs.length = m) : (execOp (evalE E) o).run P w = .ok (.value (.agg vs.toArray)) w := by
  subst hl
  have hc : (loadCells (ad.add i) vs.length).run P w = .ok vs.toArray w := run_loadCells_list (P := P) w _ vs fun j v hj => by
    rw [addr_add_add]
    refine hr.2.2 ad rfl _ _ ?_
    rw [hv j (List.getElem?_eq_some_iff.1 hj).1]
    exact hj
  exact run_load ho hx (by simp [loadVar, hg, hz, hc])
theorem run_indexArr {t e len : Nat} {x ix : Operand} {g : Nat} {kd : IntKind} {i : Int} (m : Nat) (ho : o.op = .indexAddr t x ix) (hu : P.underlying t = some (.array len e)) (hz : ∀ w, (sizeOf e).run P w = .ok 1 w)
    (hx : evalE E x = .pointer (some ⟨g, 0, none⟩)) (hi : evalE E ix = .int kd i) (hm : i = (m : Int)) (hlt : m < len) :
    ∀ w, (execOp (evalE E) o).run P w = .ok (.value (.pointer (some ⟨g, m, none⟩))) w := by
  intro w
  subst hm
  simp [execOp, ho, Instr.indexAt, Instr.sureAddr, asIntOf, hi, hx, run_underlying hu, hz, hlt, add_lit]
theorem run_indexArr_at {t e len k i : Nat} {x ix : Operand} {ad : Addr} {kd : IntKind} {z : Int} (m : Nat) (ho : o.op = .indexAddr t x ix) (hu : P.underlying t = some (.array len e)) (hz : ∀ w, (sizeOf e).run P w = .ok k w)
    (hx : evalE E x = .pointer (some (ad.add i))) (hi : evalE E ix = .int kd z) (hm : z = (m : Int)) (hlt : m < len) :
    ∀ w, (execOp (evalE E) o).run P w = .ok (.value (.pointer (some (ad.add (i + m * k))))) w := by
  intro w
  subst hm
  simp [execOp, ho, Instr.indexAt, Instr.sureAddr, asIntOf, hi, hx, run_underlying hu, hz, hlt, addr_add_add]
theorem run_indexArrO {t e len k of_ : Nat} {x ix : Operand} {g : Nat} {kd : IntKind} {z : Int} (m : Nat) (ho : o.op = .indexAddr t x ix) (hu : P.underlying t = some (.array len e)) (hz : ∀ w, (sizeOf e).run P w = .ok k w)
    (hx : evalE E x = .pointer (some ⟨g, of_, none⟩)) (hi : evalE E ix = .int kd z) (hm : z = (m : Int)) (hlt : m < len) :
    ∀ w, (execOp (evalE E) o).run P w = .ok (.value (.pointer (some ⟨g, of_ + m * k, none⟩))) w := by
  intro w
  subst hm
  simp [execOp, ho, Instr.indexAt, Instr.sureAddr, asIntOf, hi, hx, run_underlying hu, hz, hlt, add_lit]
theorem ex_store_to {t : TypeId} {x y : Operand} {g of_ : Nat} {cs cs2 : List Value} {t' : TypeId} {n : Nat} (j : Nat) (vs : List Value) (s : St W L w) (he : putAt cs of_ vs = cs2) (hj : L[j]? = some (.blk g cs t')) (ho : o.op = .store t x y) (hx : evalE E x = .pointer (some ⟨g, of_, none⟩)) (hy : (evalE E y).cells = vs.toArray)
    (hz : (sizeOf t).run P w = .ok n w) (hl : vs.length = n) (h1 : ∀ v ∈ vs, v.oneCell' = true) (hn : of_ + vs.length ≤ cs.length) :
    ∃ w1, (execOp (evalE E) o).run P w = .ok .skip w1 ∧ St W (L.set j (.blk g cs2 t')) w1 := by
  subst he; exact ex_store j vs s hj ho hx hy hz hl h1 hn
theorem ex_makeSlice {t e k b n c : Nat} {kx ky : IntKind} {x y : Operand} (T : Elt P t e k b) (zs : Array Value) (hz : (P.info? e).bind (fun i => i.zero.map (·.cells)) = some zs) (s : St W L w) (ho : o.op = .makeSlice t x y)
    (hx : evalE E x = .int kx (n : Int)) (hy : evalE E y = .int ky (c : Int)) (hnc : n ≤ c) (hc63 : c ≤ 9223372036854775807) (hc : c * b ≤ 281474976710656) (hr : c * b ≤ roomBytes) :
    ∃ v w1, (execOp (evalE E) o).run P w = .ok (.value v) w1 ∧ ∃ g, v = .slice (some ⟨g, 0, none⟩) n c ∧ St W (.blk g ((Array.range (c * k)).map (zs[· % zs.size]!)).toList e :: L) w1 := by
  obtain ⟨i, hi, hinf⟩ := Option.map_eq_some_iff.1 T.info
  simp only [Prod.mk.injEq] at hinf
  obtain ⟨_, hsz, hby⟩ := hinf
  have hz' : ∃ z, i.zero = some z ∧ z.cells = zs := by
    rw [hi] at hz; simpa using hz
  obtain ⟨z, hz1, hz2⟩ := hz'
  have w1 : IntKind.i64.wrap (n : Int) = n := wrap64_in (by omega)
  have w2 : IntKind.i64.wrap (c : Int) = c := wrap64_in (by omega)
  have t1 : ¬ (281474976710656 : Int) < (b : Int) * (c : Int) := by
    have h := Int.ofNat_le.2 hc
    rw [Int.natCast_mul, Int.mul_comm] at h; omega
  have t2 : ¬ roomBytes < c * b := by omega
  have t3 : ¬ (c : Int) < (n : Int) := by omega
  have t4 : ¬ ((c : Int) < 0) := by omega
  have t5 : ¬ ((n : Int) < 0) := by omega
  have hrun : (Instr.makeSlice t (.int kx n) (.int ky c)).run P w = .ok (.slice (some ⟨w.heap.size, 0, none⟩) n c) (w.alloc (.cells ((Array.range (c * k)).map (zs[· % zs.size]!)) e)) := by
    have e0 : ∀ f : Nat → Value, Array.map f (Array.range 0) = #[] := fun f => by simp
    by_cases h0 : c * k = 0
    · simp [Instr.makeSlice, run_underlying T.under, sizeOf, typeInfo, hi, hsz, hby, h0, e0, newRow, asInt, asIntOf, w1, w2, t1, t2, t3, t4, t5, askRoom]
    · simp [Instr.makeSlice, run_underlying T.under, sizeOf, typeInfo, zeroValue, hi, hsz, hby, h0, hz1, hz2, newRow, asInt, asIntOf, w1, w2, t1, t2, t3, t4, t5, askRoom]
  refine ⟨_, _, ?_, w.heap.size, rfl, s.alloc ((Array.range (c * k)).map (zs[· % zs.size]!)).toList e⟩
  simp only [execOp, ho, hx, hy]
  rw [Array.toArray_toList]
  simp [hrun]
theorem made_one (z : Value) (n : Nat) : ((Array.range (n * 1)).map (#[z][· % #[z].size]!)).toList = List.replicate n z := by
  apply List.ext_getElem?
  intro i
  by_cases h : i < n
  · simp [h, Nat.mod_one]
  · simp [h]
theorem putAt_get : ∀ (vs cs : List Value) (o j : Nat), (putAt cs o vs)[j]? = if o ≤ j ∧ j < o + vs.length ∧ j < cs.length then vs[j - o]? else cs[j]?
  | [], cs, o, j => by simp [putAt]; omega
  | v :: vs, cs, o, j => by
    rw [putAt, putAt_get vs, List.length_set, List.length_cons]
    by_cases h1 : o ≤ j ∧ j < o + (vs.length + 1) ∧ j < cs.length
    · rw [if_pos h1]
      by_cases h2 : j = o
      · subst h2
        rw [if_neg (by omega), List.getElem?_set_self h1.2.2, Nat.sub_self]; rfl
      · rw [if_pos ⟨by omega, by omega, h1.2.2⟩, show j - o = (j - (o + 1)) + 1 by omega]; rfl
    · rw [if_neg h1, if_neg (by omega)]
      by_cases h2 : j = o
      · subst h2
        rw [List.getElem?_eq_none (by rw [List.length_set]; omega), List.getElem?_eq_none (by omega)]
      · rw [List.getElem?_set_ne (Ne.symm h2)]
/-- A store into a row that is owned. -/
theorem ex_store_own {t : TypeId} {x y : Operand} {i : Nat} {e k n c : Nat} {ad : Addr} {cs cs2 : List Value} {m : Nat} (j : Nat) (vs : List Value) (s : St W L w) (he : putAt cs i vs = cs2) (hj : L[j]? = some (Own e k (some ad) n c cs)) (ho : o.op = .store t x y) (hx : evalE E x = .pointer (some (ad.add i))) (hy : (evalE E y).cells = vs.toArray)
    (hz : (sizeOf t).run P w = .ok m w) (hl : vs.length = m) (h1 : ∀ v ∈ vs, v.oneCell' = true) (hv : vs ≠ []) (hn : i + vs.length ≤ cs.length) :
    ∃ w1, (execOp (evalE E) o).run P w = .ok .skip w1 ∧ St W (L.set j (Own e k (some ad) n c cs2)) w1 := by
  subst he
  have s1 := s.at_ hj
  obtain ⟨f1, f2, f3⟩ := Own.facts s1.1
  have hvl : 0 < vs.length := List.length_pos_iff.2 hv
  have hc : 0 < c := by
    rcases Nat.eq_zero_or_pos c with rfl | h
    · have : n = 0 := by omega
      subst this; rw [Nat.zero_mul] at f1; omega
    · exact h
  obtain ⟨g, off, all, ha, hal, har, s2⟩ := Own.open_ hc s1
  cases ha
  have hle : n * k ≤ c * k := Nat.mul_le_mul_right k f2
  rw [add_lit] at hx
  have hst := run_store (P := P) 0 s2 rfl ho hx hy hz hl h1 (by omega)
  have s3 := St.put (of_ := off + i) (vs := vs) 0 s2 rfl
  refine ⟨_, hst, ?_⟩
  have s4 : St W (.blk g (putAt all (off + i) vs) e :: L.eraseIdx j) _ := s3
  have s5 := Own.close (n := n) (k := k) (c := c) (off := off) (cs := putAt cs i vs) (by rw [length_putAt]; exact f1) f2 f3 (by rw [length_putAt]; exact hal) (fun q u hu => ?_) s4
  · exact s5.perm (perm_set hj _)
  · rw [putAt_get] at hu ⊢
    by_cases h : i ≤ q ∧ q < i + vs.length ∧ q < cs.length
    · rw [if_pos h] at hu
      rw [if_pos ⟨by omega, by omega, by omega⟩, show off + q - (off + i) = q - i by omega]; exact hu
    · rw [if_neg h] at hu
      have hq := (List.getElem?_eq_some_iff.1 hu).1
      rw [if_neg (by omega)]
      exact har q u hu
theorem Own.addr {e k : Nat} {A : Option Addr} {n c : Nat} {cs : List Value} (s : St W (Own e k A n c cs :: L) w) (hn : 0 < n * k) : ∃ ad, A = some ad := by
  have := (Own.reads s.1).2.1 hn
  cases A with
  | none => exact absurd rfl this
  | some ad => exact ⟨ad, rfl⟩
theorem Reads.addr {k : Nat} {A : Option Addr} {n : Nat} {cs : List Value} (s : Reads w k A n cs) (hn : 0 < n * k) : ∃ ad, A = some ad := by
  have := s.2.1 hn
  cases A with
  | none => exact absurd rfl this
  | some ad => exact ⟨ad, rfl⟩
/-- A call through a function's value. -/
theorem run_callv {x : Operand} {args : Array Operand} {ts : Array TypeId} {g : Nat} {bs vs : Array Value} (ho : o.op = .call { callee := .value x, args := args, argTypes := ts }) (hx : evalE E x = .func (.func g) #[] bs) (eg : ∀ args w, (callFunc g args).run P w = .ok (.enter g args) w) (hv : args.map (evalE E) ++ bs = vs) :
    (execOp (evalE E) o).run P w = .ok (.enter g vs) w := by
  subst hv; simp [execOp, ho, resolve, Deferred.ofValue, invoke, hx, eg]
theorem Sat.drops : ∀ {A L : List Chunk} {w : World} (_ : Sat (A ++ L) w), Sat L w
  | [], _, _, s => s
  | _ :: A, _, _, s => Sat.drops (A := A) s.tail
theorem Knows.reads_none (L : List Chunk) (k : Nat) : Knows L fun w => Reads w k none 0 [] := fun w s => ⟨by simp, by simp, by simp⟩
end
end Go.Proofs.YtagbmfdheppmoaaGreatDoor.Sep
