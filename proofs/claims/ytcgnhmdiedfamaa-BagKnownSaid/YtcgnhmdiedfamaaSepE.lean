import Derived.Test.YtcgnhmdiedfamaaSepX
/-
  More operations: addresses inside rows that came in; loads from there.
-/
namespace Go.Proofs.Ytcgnhmdiedfamaa.Sep
open Go.RowKit
section
variable {P : Program} {ops : Array Oper} {Q : Exit → Act → World → Prop} {K : Act → World → Prop} {a : Act} {w W : World} {L : List Chunk} {rest : List Oper} {o : Oper} {N : Nat} {E : Env} {S : World → Prop}
theorem run_fieldAddr_at {s : TypeId} {x : Operand} {fld ft off k i : Nat} {fs : Array Field} {ad : Addr} (ho : o.op = .fieldAddr s x fld) (hu : P.underlying s = some (.struct fs)) (hf : (fs[fld]?).map (fun f => (f.type, f.offset)) = some (ft, off)) (hz : ∀ w, (sizeOf ft).run P w = .ok (k + 1) w)
    (hx : evalE E x = .pointer (some (ad.add i))) : ∀ w, (execOp (evalE E) o).run P w = .ok (.value (.pointer (some (ad.add (i + off))))) w := by
  intro w
  obtain ⟨f, hf', he⟩ := Option.map_eq_some_iff.1 hf; clear hf
  obtain ⟨rfl, rfl⟩ := Prod.mk.inj he
  simp [execOp, ho, Instr.fieldAt, Instr.sureAddr, fieldPlace, hx, run_underlying hu, hf', hz, addr_add_add]
theorem run_loadAt1 {t : TypeId} {x : Operand} {k n i : Nat} {ad : Addr} {cs : List Value} {v : Value} (hr : Reads w k (some ad) n cs) (ho : o.op = .load t x) (hx : evalE E x = .pointer (some (ad.add i))) (hg : ∀ w, (isAgg t).run P w = .ok false w)
    (hv : cs[i]? = some v) : (execOp (evalE E) o).run P w = .ok (.value v) w := by
  have hc := hr.2.2 ad rfl i v hv
  exact run_load ho hx (by simp [loadVar, hg, load, Sem.run, hc])
theorem run_loadAtN {t : TypeId} {x : Operand} {k n i m : Nat} {ad : Addr} {cs : List Value} (vs : List Value) (hr : Reads w k (some ad) n cs) (ho : o.op = .load t x) (hx : evalE E x = .pointer (some (ad.add i))) (hg : ∀ w, (isAgg t).run P w = .ok true w) (hz : ∀ w, (sizeOf t).run P w = .ok m w)
    (hv : ∀ j, j < m → cs[i + j]? = vs[j]?) (hl : vs.length = m) : (execOp (evalE E) o).run P w = .ok (.value (.agg vs.toArray)) w := by
  subst hl
  have hc : (loadCells (ad.add i) vs.length).run P w = .ok vs.toArray w := run_loadCells_list (P := P) w _ vs fun j v hj => by
    rw [addr_add_add]
    refine hr.2.2 ad rfl _ _ ?_
    rw [hv j (List.getElem?_eq_some_iff.1 hj).1]
    exact hj
  exact run_load ho hx (by simp [loadVar, hg, hz, hc])
theorem run_indexArr {t e len : Nat} {x ix : Operand} {g : Nat} {kd : IntKind} {i : Int} (m : Nat) (ho : o.op = .indexAddr t x ix) (hu : P.underlying t = some (.array len e)) (hz : ∀ w, (sizeOf e).run P w = .ok 1 w)
    (hx : evalE E x = .pointer (some ⟨g, 0, none⟩)) (hi : evalE E ix = .int kd i) (hm : i = (m : Int)) (hlt : m < len) :
    ∀ w, (execOp (evalE E) o).run P w = .ok (.value (.pointer (some ⟨g, m, none⟩))) w := by
  intro w
  subst hm
  simp [execOp, ho, Instr.indexAt, Instr.sureAddr, asIntOf, hi, hx, run_underlying hu, hz, hlt, add_lit]
theorem ex_store_to {t : TypeId} {x y : Operand} {g of_ : Nat} {cs cs2 : List Value} {t' : TypeId} {n : Nat} (j : Nat) (vs : List Value) (s : St W L w) (he : putAt cs of_ vs = cs2) (hj : L[j]? = some (.blk g cs t')) (ho : o.op = .store t x y) (hx : evalE E x = .pointer (some ⟨g, of_, none⟩)) (hy : (evalE E y).cells = vs.toArray)
    (hz : (sizeOf t).run P w = .ok n w) (hl : vs.length = n) (h1 : ∀ v ∈ vs, v.oneCell' = true) (hn : of_ + vs.length ≤ cs.length) :
    ∃ w1, (execOp (evalE E) o).run P w = .ok .skip w1 ∧ St W (L.set j (.blk g cs2 t')) w1 := by
  subst he; exact ex_store j vs s hj ho hx hy hz hl h1 hn
theorem ex_makeSlice {t e k b n c : Nat} {kx ky : IntKind} {x y : Operand} (T : Elt P t e k b) (zs : Array Value) (hz : (P.info? e).bind (fun i => i.zero.map (·.cells)) = some zs) (s : St W L w) (ho : o.op = .makeSlice t x y)
    (hx : evalE E x = .int kx (n : Int)) (hy : evalE E y = .int ky (c : Int)) (hnc : n ≤ c) (hc63 : c ≤ 9223372036854775807) (hc : c * b ≤ 281474976710656) (hr : c * b ≤ roomBytes) :
    ∃ v w1, (execOp (evalE E) o).run P w = .ok (.value v) w1 ∧ ∃ g, v = .slice (some ⟨g, 0, none⟩) n c ∧ St W (.blk g ((Array.range (c * k)).map (zs[· % zs.size]!)).toList e :: L) w1 := by
  obtain ⟨i, hi, hinf⟩ := Option.map_eq_some_iff.1 T.info
  simp only [Prod.mk.injEq] at hinf
  obtain ⟨_, hsz, hby⟩ := hinf
  have hz' : ∃ z, i.zero = some z ∧ z.cells = zs := by
    rw [hi] at hz; simpa using hz
  obtain ⟨z, hz1, hz2⟩ := hz'
  have w1 : IntKind.i64.wrap (n : Int) = n := wrap64_in (by omega)
  have w2 : IntKind.i64.wrap (c : Int) = c := wrap64_in (by omega)
  have t1 : ¬ (281474976710656 : Int) < (b : Int) * (c : Int) := by
    have h := Int.ofNat_le.2 hc
    rw [Int.natCast_mul, Int.mul_comm] at h; omega
  have t2 : ¬ roomBytes < c * b := by omega
  have t3 : ¬ (c : Int) < (n : Int) := by omega
  have t4 : ¬ ((c : Int) < 0) := by omega
  have t5 : ¬ ((n : Int) < 0) := by omega
  have hrun : (Instr.makeSlice t (.int kx n) (.int ky c)).run P w = .ok (.slice (some ⟨w.heap.size, 0, none⟩) n c) (w.alloc (.cells ((Array.range (c * k)).map (zs[· % zs.size]!)) e)) := by
    have e0 : ∀ f : Nat → Value, Array.map f (Array.range 0) = #[] := fun f => by simp
    by_cases h0 : c * k = 0
    · simp [Instr.makeSlice, run_underlying T.under, sizeOf, typeInfo, hi, hsz, hby, h0, e0, newRow, asInt, asIntOf, w1, w2, t1, t2, t3, t4, t5, askRoom]
    · simp [Instr.makeSlice, run_underlying T.under, sizeOf, typeInfo, zeroValue, hi, hsz, hby, h0, hz1, hz2, newRow, asInt, asIntOf, w1, w2, t1, t2, t3, t4, t5, askRoom]
  refine ⟨_, _, ?_, w.heap.size, rfl, s.alloc ((Array.range (c * k)).map (zs[· % zs.size]!)).toList e⟩
  simp only [execOp, ho, hx, hy]
  rw [Array.toArray_toList]
  simp [hrun]
theorem made_one (z : Value) (n : Nat) : ((Array.range (n * 1)).map (#[z][· % #[z].size]!)).toList = List.replicate n z := by
  apply List.ext_getElem?
  intro i
  by_cases h : i < n
  · simp [h, Nat.mod_one]
  · simp [h]
theorem Sat.drops : ∀ {A L : List Chunk} {w : World} (_ : Sat (A ++ L) w), Sat L w
  | [], _, _, s => s
  | _ :: A, _, _, s => Sat.drops (A := A) s.tail
theorem Knows.reads_none (L : List Chunk) (k : Nat) : Knows L fun w => Reads w k none 0 [] := fun w s => ⟨by simp, by simp, by simp⟩
end
end Go.Proofs.Ytcgnhmdiedfamaa.Sep
