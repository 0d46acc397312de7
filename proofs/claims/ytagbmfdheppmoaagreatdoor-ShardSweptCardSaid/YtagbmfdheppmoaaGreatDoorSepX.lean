import Derived.Test.YtagbmfdheppmoaaGreatDoorSepW
import Derived.Deep.LoopGhost
/-
  The operations, each as it runs: what it yields, and what became of memory.
-/
namespace Go.Proofs.YtagbmfdheppmoaaGreatDoor.Sep
open Go.RowKit
/-- What memory that meets L has. -/
def Knows (L : List Chunk) (p : World → Prop) : Prop := ∀ w, Sat L w → p w
theorem Knows.up {L : List Chunk} {p : World → Prop} (h : Knows L p) (A : Chunk) : Knows (A :: L) p := fun w s => h w s.tail
section
variable {P : Program} {ops : Array Oper} {Q : Exit → Act → World → Prop} {K : Act → World → Prop} {a : Act} {w W : World} {L : List Chunk} {rest : List Oper} {o : Oper} {N : Nat} {E : Env} {S : World → Prop}

/-! ### steps whose outcome is told by a condition -/
theorem st_ex {R : Value → World → Prop} (ha : Has a N E) (hB : (covers E o N && (wants E ops o == some true)) = true) (hr : ∃ v w1, (execOp (evalE E) o).run P w = .ok (.value v) w1 ∧ R v w1)
    (h : ∀ v w1 a, R v w1 → Has a N (putE E o.dst v) → wpList P ops Q rest a w1) : wpList P ops Q (o :: rest) a w := by
  obtain ⟨v, w1, hr, hR⟩ := hr
  exact st_run v w1 ha hB hr fun a ha => h v w1 a hR ha
theorem st_exd {R : World → Prop} (ha : Has a N E) (hB : (covers E o N && (wants E ops o == some true)) = true) (hr : ∃ w1, (execOp (evalE E) o).run P w = .ok .skip w1 ∧ R w1)
    (h : ∀ w1 a, R w1 → Has a N (putE E o.dst undef) → wpList P ops Q rest a w1) : wpList P ops Q (o :: rest) a w := by
  obtain ⟨w1, hr, hR⟩ := hr
  exact st_do w1 ha hB hr fun a ha => h w1 a hR ha
theorem hd_ex {n g f i : Nat} {listed : Array Bool} {R : Value → World → Prop} (ha : Has a N E) (hi : ops[i]? = some o)
    (hR : (decide (Region.ready .any ops listed = [i]) && decide (i < n)) = true)
    (hB : (covers E o N && (wants E ops o == some true)) = true) (hr : ∃ v w1, (execOp (evalE E) o).run P w = .ok (.value v) w1 ∧ R v w1)
    (h : ∀ v w1, R v w1 → S w1 ∧ ∀ a, Has a N (putE E o.dst v) → Head P .any ops Q S n g f (listed.setIfInBounds i true) a w1) : Head P .any ops Q S n g (f + 1) listed a w := by
  obtain ⟨v, w1, hr, hRv⟩ := hr
  exact hd_run v w1 ha hi hR hB hr (h v w1 hRv).1 (h v w1 hRv).2
theorem hd_exd {n g f i : Nat} {listed : Array Bool} {R : World → Prop} (ha : Has a N E) (hi : ops[i]? = some o)
    (hR : (decide (Region.ready .any ops listed = [i]) && decide (i < n)) = true)
    (hB : (covers E o N && (wants E ops o == some true)) = true) (hr : ∃ w1, (execOp (evalE E) o).run P w = .ok .skip w1 ∧ R w1)
    (h : ∀ w1, R w1 → S w1 ∧ ∀ a, Has a N (putE E o.dst undef) → Head P .any ops Q S n g f (listed.setIfInBounds i true) a w1) : Head P .any ops Q S n g (f + 1) listed a w := by
  obtain ⟨w1, hr, hRv⟩ := hr
  exact hd_do w1 ha hi hR hB hr (h w1 hRv).1 (h w1 hRv).2

/-! ### what the operations do -/
theorem ex_box {t : TypeId} {x : Operand} (cs : List Value) (s : St W L w) (ho : o.op = .box t x) (hx : (evalE E x).cells = cs.toArray) :
    ∃ v w1, (execOp (evalE E) o).run P w = .ok (.value v) w1 ∧ ∃ g, v = .pointer (some ⟨g, 0, none⟩) ∧ St W (.blk g cs t :: L) w1 :=
  ⟨_, _, run_box ho hx, _, rfl, s.alloc cs t⟩
theorem ex_alloc {t : TypeId} {z : Value} (cs : List Value) (s : St W L w) (ho : o.op = .alloc t) (hz : (zeroValue t).run P w = .ok z w) (hc : z.cells = cs.toArray) :
    ∃ v w1, (execOp (evalE E) o).run P w = .ok (.value v) w1 ∧ ∃ g, v = .pointer (some ⟨g, 0, none⟩) ∧ St W (.blk g cs t :: L) w1 :=
  ⟨_, _, run_alloc ho hz hc, _, rfl, s.alloc cs t⟩
theorem ex_store {t : TypeId} {x y : Operand} {g of_ : Nat} {cs : List Value} {t' : TypeId} {n : Nat} (j : Nat) (vs : List Value) (s : St W L w) (hj : L[j]? = some (.blk g cs t')) (ho : o.op = .store t x y) (hx : evalE E x = .pointer (some ⟨g, of_, none⟩)) (hy : (evalE E y).cells = vs.toArray)
    (hz : (sizeOf t).run P w = .ok n w) (hl : vs.length = n) (h1 : ∀ v ∈ vs, v.oneCell' = true) (hn : of_ + vs.length ≤ cs.length) :
    ∃ w1, (execOp (evalE E) o).run P w = .ok .skip w1 ∧ St W (L.set j (.blk g (putAt cs of_ vs) t')) w1 :=
  ⟨_, run_store j s hj ho hx hy hz hl h1 hn, St.put j s hj⟩
theorem ex_buildSlice {t e k b len : Nat} {parts : Array (Nat × Operand)} (T : Elt P t e k b) (zs : Array Value) (hz : (P.info? e).bind (fun i => i.zero.map (·.cells)) = some zs) (cs : List Value) (s : St W L w) (ho : o.op = .buildSlice t len parts)
    (hf : Instr.fill (fun i => some (i * k, k)) ((Array.range (len * k)).map (zs[· % zs.size]!)) (parts.toList.map fun x => (x.1, evalE E x.2)) = some cs.toArray) (hlen : len * k ≤ 16777216) :
    ∃ v w1, (execOp (evalE E) o).run P w = .ok (.value v) w1 ∧ ∃ g, v = .slice (some ⟨g, 0, none⟩) len len ∧ St W (.blk g cs e :: L) w1 := by
  obtain ⟨i, hi, hinf⟩ := Option.map_eq_some_iff.1 T.info
  simp only [Prod.mk.injEq] at hinf
  obtain ⟨_, hsz, _⟩ := hinf
  have hz' : ∃ z, i.zero = some z ∧ z.cells = zs := by
    rw [hi] at hz; simpa using hz
  obtain ⟨z, hz1, hz2⟩ := hz'
  have hg : ¬ (16777216 < len * k) := by omega
  have hrun : (Instr.buildSlice t len (parts.map fun (i, x) => (i, evalE E x))).run P w = .ok (.slice (some ⟨w.heap.size, 0, none⟩) len len) (w.alloc (.cells cs.toArray e)) := by
    have e0 : ∀ f : Nat → Value, Array.map f (Array.range 0) = #[] := fun f => by simp
    by_cases h0 : len * k = 0
    · rw [h0, e0] at hf
      simp [Instr.buildSlice, run_underlying T.under, sizeOf, typeInfo, hi, hsz, h0, e0, hf, newRow]
    · simp [Instr.buildSlice, run_underlying T.under, sizeOf, typeInfo, zeroValue, hi, hsz, h0, hg, hz1, hz2, hf, newRow]
  refine ⟨_, w.alloc (.cells cs.toArray e), ?_, w.heap.size, rfl, s.alloc cs e⟩
  simp only [execOp, ho]
  simp [hrun]
theorem ex_append {x y : Operand} {t e k b : Nat} (T : Elt P t e k b) (hk : 0 < k) (j : Nat) {A B : Option Addr} {n c m d' : Nat} {cs : List Value} (news : List Value) (s : St W L w)
    (ho : o.op = .call { callee := .builtin .append, args := #[x, y], argTypes := #[t, t] })
    (hx : evalE E x = .slice A n c) (hy : evalE E y = .slice B m d') (hj : L[j]? = some (Own e k A n c cs)) (hr : Reads w k B m news) (h1 : ∀ u ∈ news, u.oneCell' = true)
    (h63 : n + m ≤ maxLen) (hb : (n + m) * b ≤ 140737488355328) :
    ∃ v w1, (execOp (evalE E) o).run P w = .ok (.value v) w1 ∧ ∃ A' c', v = .slice A' (n + m) c' ∧ (A' = none → A = none ∧ m = 0) ∧ St W (L.set j (Own e k A' (n + m) c' (cs ++ news))) w1 := by
  obtain ⟨A', c', w1, hrun, s1, hn⟩ := run_append_own (P := P) T hk (s.at_ hj) hr h1 h63 hb o.type (d := d')
  refine ⟨_, w1, ?_, A', c', rfl, hn, s1.perm (perm_set hj _)⟩
  simp [execOp, ho, resolve, invoke, builtin, hx, hy, hrun]

/-- Two slices, of which the second one was made of the first one by append. -/
def Forked (e k : Nat) (A : Option Addr) (n c : Nat) (cs : List Value) (A' : Option Addr) (n' c' : Nat) (news : List Value) : Chunk := .oth fun h =>
  (A' = A ∧ c' = c ∧ n ≤ n' ∧ cs.length = n * k ∧ (Own e k A' n' c' (cs ++ news)).a h) ∨ SatH [Own e k A' n' c' (cs ++ news), Own e k A n c cs] h
theorem Forked.new {e k : Nat} {A : Option Addr} {n c : Nat} {cs : List Value} {A' : Option Addr} {n' c' : Nat} {news : List Value} (s : Sat (Forked e k A n c cs A' n' c' news :: L) w) : Reads w k A' n' (cs ++ news) := by
  obtain ⟨h1, h2, a, s1, s2, ⟨_, _, _, _, x⟩ | x, y⟩ := s
  · exact Own.reads (L := []) ⟨h1, h2, a, s1, s2, x, trivial⟩
  · exact Own.reads (L := [Own e k A n c cs]) (SatH.mono x s1)
theorem Forked.old {e k : Nat} {A : Option Addr} {n c : Nat} {cs : List Value} {A' : Option Addr} {n' c' : Nat} {news : List Value} (s : Sat (Forked e k A n c cs A' n' c' news :: L) w) : Reads w k A n cs := by
  obtain ⟨h1, h2, a, s1, s2, ⟨rfl, rfl, hn, hl, x⟩ | x, y⟩ := s
  · have hr := Own.reads (L := []) (w := w) ⟨h1, h2, a, s1, s2, x, trivial⟩
    have hk : n * k ≤ n' * k := Nat.mul_le_mul_right k hn
    exact ⟨hl, fun h => hr.2.1 (by omega), fun ad e1 j u hu => hr.2.2 ad e1 j u (by rw [List.getElem?_append_left (List.getElem?_eq_some_iff.1 hu).1]; exact hu)⟩
  · exact Own.reads (L := []) (SatH.tail (SatH.mono x s1))
theorem ex_append_keep {x y : Operand} {t e k b : Nat} (T : Elt P t e k b) (hk : 0 < k) (j : Nat) {A B : Option Addr} {n c m d' : Nat} {cs : List Value} (news : List Value) (s : St W L w)
    (ho : o.op = .call { callee := .builtin .append, args := #[x, y], argTypes := #[t, t] })
    (hx : evalE E x = .slice A n c) (hy : evalE E y = .slice B m d') (hj : L[j]? = some (Own e k A n c cs)) (hr : Reads w k B m news) (h1 : ∀ u ∈ news, u.oneCell' = true)
    (h63 : n + m ≤ maxLen) (hb : (n + m) * b ≤ 140737488355328) :
    ∃ v w1, (execOp (evalE E) o).run P w = .ok (.value v) w1 ∧ ∃ A' c', v = .slice A' (n + m) c' ∧ St W (L.set j (Forked e k A n c cs A' (n + m) c' news)) w1 := by
  have hf := Own.facts (s.at_ hj).1
  obtain ⟨A', c', w1, hrun, s1, _⟩ := run_append_both (P := P) T hk (s.at_ hj) hr h1 h63 hb o.type (d := d')
  refine ⟨_, w1, ?_, A', c', rfl, ?_⟩
  · simp [execOp, ho, resolve, invoke, builtin, hx, hy, hrun]
  · refine St.perm ?_ (perm_set hj _)
    rcases s1 with ⟨rfl, rfl, s1⟩ | s1
    · exact ⟨s1.1.head_imp fun h x => .inl ⟨rfl, rfl, by omega, hf.1, x⟩, s1.2⟩
    · refine ⟨?_, s1.2⟩
      have := (Sat.star_iff (L := [Own e k A' (n + m) c' (cs ++ news), Own e k A n c cs])).2 s1.1
      exact Sat.head_imp this fun h x => .inr x
theorem run_indexAddr {t e k : Nat} {x ix : Operand} {g of_ n c : Nat} {kd : IntKind} {i : Int} (m : Nat) (ho : o.op = .indexAddr t x ix) (hu : P.underlying t = some (.slice e)) (hz : ∀ w, (sizeOf e).run P w = .ok k w)
    (hx : evalE E x = .slice (some ⟨g, of_, none⟩) n c) (hi : evalE E ix = .int kd i) (hm : i = (m : Int)) (hlt : m < n) :
    ∀ w, (execOp (evalE E) o).run P w = .ok (.value (.pointer (some ⟨g, of_ + m * k, none⟩))) w := by
  intro w
  subst hm
  simp [execOp, ho, Instr.indexAt, asIntOf, hi, hx, run_underlying hu, hz, hlt, add_lit]
theorem run_indexAddr' {t e k : Nat} {x ix : Operand} {ad : Addr} {n c : Nat} {kd : IntKind} {i : Int} (m : Nat) (ho : o.op = .indexAddr t x ix) (hu : P.underlying t = some (.slice e)) (hz : ∀ w, (sizeOf e).run P w = .ok k w)
    (hx : evalE E x = .slice (some ad) n c) (hi : evalE E ix = .int kd i) (hm : i = (m : Int)) (hlt : m < n) :
    ∀ w, (execOp (evalE E) o).run P w = .ok (.value (.pointer (some (ad.add (m * k))))) w := by
  intro w
  subst hm
  simp [execOp, ho, Instr.indexAt, asIntOf, hi, hx, run_underlying hu, hz, hlt]
/-- A bound of a slice expression. -/
def bnd (E : Env) : Option Operand → Nat → Nat → Prop
  | none, d, l => l = d
  | some x, _, l => ∃ k, evalE E x = .int k (l : Int)
theorem bnd_none {E : Env} {d : Nat} : bnd E none d d := rfl
theorem bnd_some {E : Env} {x : Operand} {d l : Nat} (k : IntKind) (h : evalE E x = .int k (l : Int)) : bnd E (some x) d l := ⟨k, h⟩
def slA (A : Option Addr) (l m k : Nat) : Option Addr := if m = l then A else A.map (·.add (l * k))
theorem slA_zero (A : Option Addr) (m k : Nat) : slA A 0 m k = A := by
  unfold slA
  split
  · rfl
  · cases A with
    | none => rfl
    | some a => simp [Addr.add]
theorem run_bound {x : Value} {y l : Nat} {k : IntKind} {code : BoundsCode} (h : x = .int k (l : Int)) (hle : l ≤ y) : (Instr.sliceBound x y code).run P w = .ok l w := by
  have : (l : Int) ≤ (y : Int) := by omega
  simp [Instr.sliceBound, h, asIntOf, this]
theorem run_slice {t e k : Nat} {x : Operand} {lo hi mx : Option Operand} {A : Option Addr} {n c : Nat} (l h m : Nat) (ho : o.op = .slice t x lo hi mx) (hu : P.underlying t = some (.slice e)) (hz : ∀ w, (sizeOf e).run P w = .ok k w)
    (hx : evalE E x = .slice A n c) (hmx : mx.isSome = true → hi.isSome = true) (h1 : bnd E mx c m) (h2 : bnd E hi n h) (h3 : bnd E lo 0 l) (hl : l ≤ h) (hh : h ≤ m) (hm : m ≤ c) :
    ∀ w, (execOp (evalE E) o).run P w = .ok (.value (.slice (slA A l m k) (h - l) (m - l))) w := by
  intro w
  have hb : (Instr.sliceBounds true n c (lo.map (evalE E)) (hi.map (evalE E)) (mx.map (evalE E))).run P w = .ok (l, h, m) w := by
    cases mx with
    | none =>
      simp only [bnd] at h1
      subst h1
      cases hi with
      | none =>
        simp only [bnd] at h2
        subst h2
        cases lo with
        | none => simp only [bnd] at h3; subst h3; simp [Instr.sliceBounds]
        | some x => obtain ⟨k3, e3⟩ := h3; simp [Instr.sliceBounds, run_bound e3 hl]
      | some y =>
        obtain ⟨k2, e2⟩ := h2
        cases lo with
        | none => simp only [bnd] at h3; subst h3; simp [Instr.sliceBounds, run_bound e2 hh]
        | some x => obtain ⟨k3, e3⟩ := h3; simp [Instr.sliceBounds, run_bound e3 hl, run_bound e2 hh]
    | some z =>
      obtain ⟨k1, e1⟩ := h1
      cases hi with
      | none => simp at hmx
      | some y =>
        obtain ⟨k2, e2⟩ := h2
        cases lo with
        | none => simp only [bnd] at h3; subst h3; simp [Instr.sliceBounds, run_bound e1 hm, run_bound e2 hh]
        | some x => obtain ⟨k3, e3⟩ := h3; simp [Instr.sliceBounds, run_bound e3 hl, run_bound e2 hh, run_bound e1 hm]
  simp [execOp, ho, Instr.sliceAt, Instr.slice, run_underlying hu, hx, hb, hz, slA]
theorem run_slice0 {t e k : Nat} {x : Operand} {lo hi mx : Option Operand} {A : Option Addr} {n c : Nat} (h m : Nat) (ho : o.op = .slice t x lo hi mx) (hu : P.underlying t = some (.slice e)) (hz : ∀ w, (sizeOf e).run P w = .ok k w)
    (hx : evalE E x = .slice A n c) (hmx : mx.isSome = true → hi.isSome = true) (h1 : bnd E mx c m) (h2 : bnd E hi n h) (h3 : bnd E lo 0 0) (hh : h ≤ m) (hm : m ≤ c) :
    ∀ w, (execOp (evalE E) o).run P w = .ok (.value (.slice A h m)) w := by
  intro w
  have := run_slice (P := P) 0 h m ho hu hz hx hmx h1 h2 h3 (Nat.zero_le _) hh hm w
  rwa [slA_zero] at this
theorem run_index_str {t : Nat} {x ix : Operand} {b : ByteArray} {kd : IntKind} {i : Int} (m : Nat) (ho : o.op = .index t x ix) (hu : P.underlying t = some .string) (hx : evalE E x = .string b) (hi : evalE E ix = .int kd i) (hm : i = (m : Int)) (hlt : m < b.size) :
    ∀ w, (execOp (evalE E) o).run P w = .ok (.value (.int .u8 (b[m].toNat : Int))) w := by
  intro w
  subst hm
  simp [execOp, ho, Instr.index, asIntOf, hi, hx, run_underlying hu, hlt]
theorem wrap64_in {x : Int} (h : -9223372036854775808 ≤ x ∧ x ≤ 9223372036854775807) : IntKind.i64.wrap x = x := IntWalk.i64_in _ h
theorem run_arith {op : BinOp} {xt yt : TypeId} {x y : Operand} {kd : IntKind} {p q : Int} (r z : Int) (ho : o.op = .binOp op xt x y yt) (hx : evalE E x = .int kd p) (hy : evalE E y = .int kd q) (hop : (op = .add ∧ r = p + q) ∨ (op = .sub ∧ r = p - q) ∨ (op = .mul ∧ r = p * q)) (hz : kd.wrap r = z) :
    ∀ w, (execOp (evalE E) o).run P w = .ok (.value (.int kd z)) w := by
  intro w
  subst hz
  rcases hop with ⟨rfl, rfl⟩ | ⟨rfl, rfl⟩ | ⟨rfl, rfl⟩ <;> simp [execOp, ho, hx, hy, binOp, eqGuard, Op.intArith]

theorem run_known {b c : Bool} {w1 : World} (h : b = c) (hr : (execOp (evalE E) o).run P w = .ok (.value (.bool b)) w1) : (execOp (evalE E) o).run P w = .ok (.value (.bool c)) w1 := h ▸ hr
theorem addr_add_add (a : Addr) (x y : Nat) : (a.add x).add y = a.add (x + y) := by
  unfold Addr.add
  by_cases h : x = 0
  · subst h; simp
  · by_cases h2 : y = 0
    · subst h2; simp [h]
    · simp [h, h2, Nat.add_assoc]
theorem run_loadCells_row {k n m : Nat} {ad : Addr} {cs : List Value} (hr : Reads w k (some ad) n cs) (vs : List Value) (hv : ∀ j, j < k → cs[m * k + j]? = vs[j]?) (hl : vs.length = k) : (loadCells (ad.add (m * k)) k).run P w = .ok vs.toArray w := by
  subst hl
  refine run_loadCells_list (P := P) w _ vs fun j v hj => ?_
  rw [addr_add_add]
  refine hr.2.2 ad rfl _ _ ?_
  rw [hv j (List.getElem?_eq_some_iff.1 hj).1]
  exact hj
theorem run_loadRow {t : TypeId} {x : Operand} {k n m : Nat} {ad : Addr} {cs : List Value} (vs : List Value) (hr : Reads w k (some ad) n cs) (ho : o.op = .load t x) (hx : evalE E x = .pointer (some (ad.add (m * k)))) (hg : ∀ w, (isAgg t).run P w = .ok true w) (hz : ∀ w, (sizeOf t).run P w = .ok k w)
    (hv : ∀ j, j < k → cs[m * k + j]? = vs[j]?) (hl : vs.length = k) : (execOp (evalE E) o).run P w = .ok (.value (.agg vs.toArray)) w :=
  run_load ho hx (by simp [loadVar, hg, hz, run_loadCells_row (P := P) hr vs hv hl])
theorem run_loadRow1 {t : TypeId} {x : Operand} {n m : Nat} {ad : Addr} {cs : List Value} {v : Value} (hr : Reads w 1 (some ad) n cs) (ho : o.op = .load t x) (hx : evalE E x = .pointer (some (ad.add (m * 1)))) (hg : ∀ w, (isAgg t).run P w = .ok false w)
    (hv : cs[m]? = some v) : (execOp (evalE E) o).run P w = .ok (.value v) w := by
  have hc := hr.2.2 ad rfl m v hv
  rw [Nat.mul_one] at hx
  exact run_load ho hx (by simp [loadVar, hg, load, Sem.run, hc])

theorem run_rem {xt yt : TypeId} {x y : Operand} {kd : IntKind} {p q : Int} (z : Int) (ho : o.op = .binOp .rem xt x y yt) (hx : evalE E x = .int kd p) (hy : evalE E y = .int kd q) (hq : q ≠ 0) (hz : p.tmod q = z) :
    ∀ w, (execOp (evalE E) o).run P w = .ok (.value (.int kd z)) w := by
  intro w
  subst hz
  simp [execOp, ho, hx, hy, binOp, eqGuard, Op.intDiv, hq]
theorem run_quo {xt yt : TypeId} {x y : Operand} {kd : IntKind} {p q : Int} (z : Int) (ho : o.op = .binOp .quo xt x y yt) (hx : evalE E x = .int kd p) (hy : evalE E y = .int kd q) (hq : q ≠ 0) (hz : kd.wrap (p.tdiv q) = z) :
    ∀ w, (execOp (evalE E) o).run P w = .ok (.value (.int kd z)) w := by
  intro w
  subst hz
  simp [execOp, ho, hx, hy, binOp, eqGuard, Op.intDiv, hq]
theorem run_conv {st dt : TypeId} {x : Operand} {ks kd : IntKind} {p : Int} (z : Int) (ho : o.op = .convert st dt x) (hx : evalE E x = .int ks p) (hs : P.underlying st = some (.int ks)) (hd : P.underlying dt = some (.int kd)) (hz : kd.wrap p = z) :
    ∀ w, (execOp (evalE E) o).run P w = .ok (.value (.int kd z)) w := by
  intro w
  subst hz
  simp [execOp, ho, hx, convert, run_underlying hs, run_underlying hd, Conv.intToInt]
theorem run_min2 {t : TypeId} {x y : Operand} {kd : IntKind} {p q : Int} (z : Int) (ho : o.op = .call { callee := .builtin .min, args := #[x, y], argTypes := #[t, t] }) (hx : evalE E x = .int kd p) (hy : evalE E y = .int kd q) (hz : (if q < p then q else p) = z) :
    ∀ w, (execOp (evalE E) o).run P w = .ok (.value (.int kd z)) w := by
  intro w
  subst hz
  simp [execOp, ho, resolve, invoke, builtin, hx, hy, Builtin.min_, Builtin.min2]
theorem run_max2 {t : TypeId} {x y : Operand} {kd : IntKind} {p q : Int} (z : Int) (ho : o.op = .call { callee := .builtin .max, args := #[x, y], argTypes := #[t, t] }) (hx : evalE E x = .int kd p) (hy : evalE E y = .int kd q) (hz : (if p < q then q else p) = z) :
    ∀ w, (execOp (evalE E) o).run P w = .ok (.value (.int kd z)) w := by
  intro w
  subst hz
  simp [execOp, ho, resolve, invoke, builtin, hx, hy, Builtin.max_, Builtin.max2]
theorem Knows.own {L : List Chunk} {j e k : Nat} {A : Option Addr} {n c : Nat} {cs : List Value} (h : L[j]? = some (Own e k A n c cs)) : Knows L fun w => Reads w k A n cs := fun w s => Own.reads (s.perm (perm_at h))

/-! ### loads from blocks that are known -/
def BlkIs (g : Nat) (cs : List Value) (w : World) : Prop := ∀ i, w.cell? ⟨g, i, none⟩ = cs[i]?
theorem St.blkIs {g : Nat} {cs : List Value} {t : TypeId} (s : St W L w) (j : Nat) (hj : L[j]? = some (.blk g cs t)) : BlkIs g cs w := (s.at_ hj).1.cell
theorem run_load1 {t : TypeId} {x : Operand} {g of_ : Nat} {cs : List Value} {v : Value} (b : BlkIs g cs w) (ho : o.op = .load t x) (hx : evalE E x = .pointer (some ⟨g, of_, none⟩)) (hg : ∀ w, (isAgg t).run P w = .ok false w) (hv : cs[of_]? = some v) :
    (execOp (evalE E) o).run P w = .ok (.value v) w := by
  have hc := b of_
  rw [hv] at hc
  exact run_load ho hx (by simp [loadVar, hg, load, Sem.run, hc])
theorem run_loadN {t : TypeId} {x : Operand} {g of_ n : Nat} {cs : List Value} (vs : List Value) (b : BlkIs g cs w) (ho : o.op = .load t x) (hx : evalE E x = .pointer (some ⟨g, of_, none⟩)) (hg : ∀ w, (isAgg t).run P w = .ok true w) (hz : ∀ w, (sizeOf t).run P w = .ok n w)
    (hv : cs.extract of_ (of_ + n) = vs) (hn : of_ + n ≤ cs.length) : (execOp (evalE E) o).run P w = .ok (.value (.agg vs.toArray)) w := by
  have hc := run_loadCells_at (P := P) g of_ cs b n hn
  rw [hv] at hc
  exact run_load ho hx (by simp [loadVar, hg, hz, hc])
/-- A result that lies in a block that is known. -/
theorem res_tmp {t : Tmp} {v : Value} (i : isIn E t = true) (e : look E t = v) : resIs P E w (.tmp t) v := ⟨i, e⟩
theorem res_cell1 {t : Tmp} {ty : TypeId} {g : Nat} {cs : List Value} {v : Value} (b : BlkIs g cs w) (i : isIn E t = true) (e : look E t = .pointer (some ⟨g, 0, none⟩)) (hg : ∀ w, (isAgg ty).run P w = .ok false w) (hv : cs[0]? = some v) : resIs P E w (.cell t ty) v := by
  have hc := b 0
  rw [hv] at hc
  exact ⟨i, _, e, by simp [loadVar, hg, load, Sem.run, hc]⟩
theorem res_cellN {t : Tmp} {ty : TypeId} {g n : Nat} {cs : List Value} (b : BlkIs g cs w) (i : isIn E t = true) (e : look E t = .pointer (some ⟨g, 0, none⟩)) (hg : ∀ w, (isAgg ty).run P w = .ok true w) (hz : ∀ w, (sizeOf ty).run P w = .ok n w) (hn : n = cs.length) : resIs P E w (.cell t ty) (.agg cs.toArray) := by
  subst hn
  have hc := run_loadCells_at (P := P) g 0 cs b cs.length (by omega)
  exact ⟨i, _, e, by simp [loadVar, hg, hz, hc]⟩

/-! ### loops -/
theorem wp_loopG {G : Type} {c : Code} (I : G → Act → World → Prop) (μ : G → Nat) (g0 : G) (h0 : I g0 a w) (round : ∀ g a w, I g a w → c.wp P (Exit.then (fun a' w' => ∃ g', μ g' < μ g ∧ I g' a' w') Q) a w) : (Code.loop c).wp P Q a w := by
  refine wp_loop_ghost (fun n a w => ∃ g, μ g = n ∧ I g a w) (μ g0) ⟨g0, rfl, h0⟩ ?_
  rintro n a w ⟨g, rfl, hI⟩
  refine wp_mono (round g a w hI) fun e a' w' h => ?_
  cases e with
  | normal => obtain ⟨g', hlt, h'⟩ := h; exact ⟨μ g', hlt, g', rfl, h'⟩
  | _ => exact h

/-! ### tests -/
theorem wp_true {c : Operand} {x y : Code} (ha : Has a N E) (hc : (match c with | .tmp t => isIn E t | _ => true) = true) (hv : evalE E c = .bool true) (h : x.wp P Q a w) : (Code.cond c x y).wp P Q a w :=
  wp_if ha hc hv (by rw [if_pos rfl]; exact h)
theorem wp_false {c : Operand} {x y : Code} (ha : Has a N E) (hc : (match c with | .tmp t => isIn E t | _ => true) = true) (hv : evalE E c = .bool false) (h : y.wp P Q a w) : (Code.cond c x y).wp P Q a w :=
  wp_if ha hc hv (by rw [if_neg (by simp)]; exact h)
theorem wp_part {c : Operand} {x y : Code} (t : Bool) (ha : Has a N E) (hc : (match c with | .tmp t => isIn E t | _ => true) = true) (hv : evalE E c = .bool t) (h1 : t = true → x.wp P Q a w) (h2 : t = false → y.wp P Q a w) : (Code.cond c x y).wp P Q a w := by
  refine wp_if ha hc hv ?_
  split
  · exact h1 (by assumption)
  · rename_i h; exact h2 (by simpa using h)

theorem reads_blk {g k n : Nat} {cs : List Value} (b : BlkIs g cs w) (h : cs.length = n * k) : Reads w k (some ⟨g, 0, none⟩) n cs :=
  ⟨h, fun _ => by simp, fun ad e j u hu => by cases e; rw [add_lit, Nat.zero_add, b j]; exact hu⟩
theorem St.mid {A B T : List Chunk} (s : St W (A ++ (B ++ T)) w) : St W (A ++ T) w := by
  refine ⟨?_, s.2⟩
  obtain ⟨h1, h2, a, s1, s2, x, y⟩ := SatH.append_iff.1 s.1
  obtain ⟨h3, h4, b, s3, s4, _, z⟩ := SatH.append_iff.1 y
  exact SatH.append_iff.2 ⟨h1, h4, a.mono (Hp.sub.refl _) s4, s1, s4.trans s2, x, z⟩
/-- What stands behind the first n pieces, m of them, is let go. -/
theorem St.keep {M : List Chunk} (n m : Nat) (s : St W M w) : St W (M.take n ++ M.drop (n + m)) w := by
  have e : M = M.take n ++ ((M.drop n).take m ++ M.drop (n + m)) := by
    rw [← List.drop_drop, List.take_append_drop, List.take_append_drop]
  rw [e] at s
  exact St.mid s
theorem Own.cut {e k : Nat} {A : Option Addr} {n c m : Nat} {cs : List Value} (s : St W (Own e k A n c cs :: L) w) (hm : m ≤ n) : St W (Own e k A m m (cs.take (m * k)) :: L) w := by
  refine ⟨s.1.head_imp ?_, s.2⟩
  rintro h ⟨x1, x2, x3, x⟩
  have hmk : m * k ≤ n * k := Nat.mul_le_mul_right k hm
  refine ⟨by rw [List.length_take, x1]; omega, Nat.le_refl _, by omega, ?_⟩
  rcases x with rfl | ⟨g, off, all, rfl, hg, hl, hr⟩
  · left; omega
  · right
    refine ⟨g, off, all, rfl, hg, ?_, fun j u hu => ?_⟩
    · have : m * k ≤ c * k := Nat.mul_le_mul_right k (by omega)
      omega
    · rw [List.getElem?_take] at hu
      split at hu
      · exact hr j u hu
      · cases hu
theorem Reads.sub {k n c l h : Nat} {A : Option Addr} {cs : List Value} (hr : Reads w k A n cs) (hlh : l ≤ h) (hh : h ≤ n) (hnc : n ≤ c) : Reads w k (slA A l c k) (h - l) (cs.extract (l * k) (h * k)) := by
  obtain ⟨h1, h2, h3⟩ := hr
  have a1 : l * k ≤ h * k := Nat.mul_le_mul_right k hlh
  have a2 : h * k ≤ n * k := Nat.mul_le_mul_right k hh
  refine ⟨?_, ?_, ?_⟩
  · rw [List.extract_eq_take_drop, List.length_take, List.length_drop, Nat.sub_mul]; omega
  · intro hp
    have : 0 < n * k := by rw [Nat.sub_mul] at hp; omega
    have := h2 this
    unfold slA
    split
    · exact this
    · cases A with
      | none => exact absurd rfl this
      | some a => simp
  · intro ad e j u hu
    rw [List.extract_eq_take_drop, List.getElem?_take] at hu
    split at hu
    · rename_i hj
      rw [List.getElem?_drop] at hu
      unfold slA at e
      split at e
      · have : h = l := by omega
        subst this; simp at hj
      · cases A with
        | none => cases e
        | some a =>
          simp at e
          subst e
          rw [addr_add_add]
          exact h3 a rfl _ _ hu
    · cases hu

theorem Reads.take {k n h : Nat} {A : Option Addr} {cs : List Value} (hr : Reads w k A n cs) (hh : h ≤ n) : Reads w k A h (cs.take (h * k)) := by
  have := Reads.sub (c := n) hr (Nat.zero_le h) hh (Nat.le_refl _)
  rwa [slA_zero, Nat.zero_mul, List.extract_eq_take_drop, List.drop_zero, Nat.sub_zero, Nat.sub_zero] at this

/-! ### ends of pieces -/
theorem then_normal {x : Act → World → Prop} (h : x a w) : Exit.then x Q .normal a w := h
theorem then_ret {x : Act → World → Prop} (h : Q .ret a w) : Exit.then x Q .ret a w := h
theorem then_exit {x : Act → World → Prop} {id : Nat} (h : Q (.exit id) a w) : Exit.then x Q (.exit id) a w := h
theorem block_normal {id : Nat} (h : Q .normal a w) : Exit.inBlock id Q .normal a w := h
theorem block_ret {id : Nat} (h : Q .ret a w) : Exit.inBlock id Q .ret a w := h
theorem block_hit {id : Nat} (h : Q .normal a w) : Exit.inBlock id Q (.exit id) a w := by simp only [Exit.inBlock, if_true]; exact h
theorem block_miss {id i : Nat} (hne : (Nat.beq i id) = false) (h : Q (.exit i) a w) : Exit.inBlock id Q (.exit i) a w := by
  simp only [Exit.inBlock]
  rw [if_neg (fun e => by subst e; simp at hne)]
  exact h
theorem Has.nil {E : Env} (h : Has a N E) : Has a N [] := ⟨h.size, h.defers, fun t i => by simp [isIn] at i⟩
theorem Has.cons {E E' : Env} {t : Nat} {v : Value} (h : Has a N E) (i : isIn E t = true) (e : look E t = v) (h' : Has a N E') : Has a N ((t, v) :: E') := by
  refine ⟨h.size, h.defers, fun u hu => ?_⟩
  simp only [isIn, look] at hu ⊢
  cases hb : Nat.beq t u with
  | true =>
    have := Nat.eq_of_beq_eq_true hb
    subst this
    simp only [cond_true]
    rw [← e]
    exact h.get t i
  | false =>
    simp only [hb, cond_false] at hu ⊢
    exact h'.get u hu
end
end Go.Proofs.YtagbmfdheppmoaaGreatDoor.Sep
