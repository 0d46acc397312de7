import Derived.Test.YtagbmfdheppmoaaGreatDoorSepB
/-
  Slices that are owned: the first n elements (k cells each) of a row of memory that nobody else owns; append onto them.
-/
namespace Go.Proofs.YtagbmfdheppmoaaGreatDoor.Sep
open Go.RowKit

/-- The row that a slice of n elements with k cells each, of capacity c, begins at A; its cells are cs. -/
def Own (e k : Nat) (A : Option Addr) (n c : Nat) (cs : List Value) : Chunk := .oth fun h =>
  cs.length = n * k ∧ n ≤ c ∧ c ≤ maxLen ∧ (c = 0 ∨ ∃ g off all, A = some ⟨g, off, none⟩ ∧ h g = some (.cells (List.toArray all) e (0, 0)) ∧ off + c * k ≤ all.length ∧ ∀ j u, cs[j]? = some u → all[off + j]? = some u)

/-- A slice's cells can be read. -/
def Reads (w : World) (k : Nat) (A : Option Addr) (n : Nat) (cs : List Value) : Prop :=
  cs.length = n * k ∧ (0 < n * k → A ≠ none) ∧ ∀ ad, A = some ad → ∀ j u, cs[j]? = some u → w.cell? (ad.add j) = some u

/-- Slice type t has elements of type e, of k cells and b bytes. -/
structure Elt (P : Program) (t e k b : Nat) : Prop where
  under : P.underlying t = some (.slice e)
  info : (P.info? e).map (fun i => (i.zero.map (·.cells.size), i.size, i.bytes)) = some (some k, k, b)

theorem add_lit (g o j : Nat) : (⟨g, o, none⟩ : Addr).add j = ⟨g, o + j, none⟩ := by unfold Addr.add; split <;> simp_all

section
variable {P : Program} {Q : Exit → Act → World → Prop} {K : Act → World → Prop} {a : Act} {w W : World} {L : List Chunk}

theorem Own.facts {e k : Nat} {A : Option Addr} {n c : Nat} {cs : List Value} (s : Sat (Own e k A n c cs :: L) w) : cs.length = n * k ∧ n ≤ c ∧ c ≤ maxLen := by
  obtain ⟨h1, h2, a, s1, s2, ⟨x1, x2, x3, x⟩, y⟩ := s
  exact ⟨x1, x2, x3⟩
theorem Own.reads {e k : Nat} {A : Option Addr} {n c : Nat} {cs : List Value} (s : Sat (Own e k A n c cs :: L) w) : Reads w k A n cs := by
  obtain ⟨h1, h2, a, s1, s2, ⟨x1, x2, x3, x⟩, y⟩ := s
  refine ⟨x1, ?_, ?_⟩
  · intro hp
    rcases x with rfl | ⟨g, off, all, rfl, _⟩
    · have : n = 0 := by omega
      subst this; simp at hp
    · simp
  · intro ad e1 j u hu
    rcases x with rfl | ⟨g, off, all, rfl, hg, hl, hr⟩
    · have : n = 0 := by omega
      subst this; simp at x1; subst x1; simp at hu
    · cases e1
      have hb : w.heap[g]? = _ := s1 _ _ hg
      rw [add_lit, cell_of_blk hb]
      exact hr j u hu

theorem Own.open_ {e k : Nat} {A : Option Addr} {n c : Nat} {cs : List Value} (hc : 0 < c) (s : St W (Own e k A n c cs :: L) w) :
    ∃ g off all, A = some ⟨g, off, none⟩ ∧ off + c * k ≤ all.length ∧ (∀ j u, cs[j]? = some u → all[off + j]? = some u) ∧ St W (.blk g all e :: L) w := by
  obtain ⟨⟨h1, h2, a, s1, s2, ⟨x1, x2, x3, x⟩, y⟩, z⟩ := s
  rcases x with rfl | ⟨g, off, all, rfl, hg, hl, hr⟩
  · omega
  · exact ⟨g, off, all, rfl, hl, hr, ⟨h1, h2, a, s1, s2, hg, y⟩, z⟩
theorem Own.close {e k : Nat} {g off : Nat} {n c : Nat} {cs all : List Value} (h1 : cs.length = n * k) (h2 : n ≤ c) (h3 : c ≤ maxLen) (hl : off + c * k ≤ all.length) (hr : ∀ j u, cs[j]? = some u → all[off + j]? = some u)
    (s : St W (.blk g all e :: L) w) : St W (Own e k (some ⟨g, off, none⟩) n c cs :: L) w :=
  ⟨s.1.head_imp fun _ x => ⟨h1, h2, h3, .inr ⟨g, off, all, rfl, x, hl, hr⟩⟩, s.2⟩
theorem Own.none_ {e k : Nat} (A : Option Addr) (s : St W L w) : St W (Own e k A 0 0 [] :: L) w := by
  refine ⟨⟨fun _ => none, hp w, fun _ => .inl rfl, fun _ _ e => (by cases e), Hp.sub.refl _, ?_, s.1⟩, s.2⟩
  exact ⟨by simp, Nat.le_refl _, by simp [maxLen], .inl rfl⟩

/-- append onto an owned row: in place, or into a new one beside it. -/
theorem run_append_both {t e k b : Nat} (E : Elt P t e k b) (hk : 0 < k) {A B : Option Addr} {n c m d : Nat} {cs news : List Value}
    (s : St W (Own e k A n c cs :: L) w) (hr : Reads w k B m news) (h1 : ∀ u ∈ news, u.oneCell' = true)
    (h63 : n + m ≤ maxLen) (hb : (n + m) * b ≤ 140737488355328) (ty : TypeId) :
    ∃ A' c' w1, (Builtin.append_ #[t, t] ty #[.slice A n c, .slice B m d]).run P w = .ok (.slice A' (n + m) c') w1 ∧
      ((A' = A ∧ c' = c ∧ St W (Own e k A' (n + m) c' (cs ++ news) :: L) w1) ∨ St W (Own e k A' (n + m) c' (cs ++ news) :: Own e k A n c cs :: L) w1) ∧ (A' = none → A = none ∧ m = 0) := by
  obtain ⟨hl, hnc, hcm⟩ := Own.facts s.1
  obtain ⟨hrl, hrn, hrr⟩ := hr
  obtain ⟨i, hi, hinf⟩ := Option.map_eq_some_iff.1 E.info
  simp only [Prod.mk.injEq] at hinf
  obtain ⟨hz, hsz, hby⟩ := hinf
  obtain ⟨z, hz, hzs⟩ := Option.map_eq_some_iff.1 hz
  by_cases hm : m = 0
  · subst hm
    have : news = [] := by simpa using hrl
    subst this
    refine ⟨A, c, w, ?_, .inl ⟨rfl, rfl, by simpa using s⟩, fun h => ⟨h, rfl⟩⟩
    cases A <;> cases B <;> simp [Builtin.append_, run_underlying E.under, sizeOf, typeInfo, hi, Builtin.lenOf, hnc, Builtin.firstCells, loadCells, loadCellsFrom, storeCells]
  · have hm0 : 0 < m := by omega
    have hB : B ≠ none := hrn (Nat.mul_pos hm0 hk)
    obtain ⟨ad, rfl⟩ : ∃ ad, B = some ad := by cases B with | none => exact absurd rfl hB | some ad => exact ⟨ad, rfl⟩
    have hnews := hrr ad rfl
    by_cases hroom : n + m ≤ c
    · obtain ⟨g, off, all, rfl, hal, har, s1⟩ := Own.open_ (by omega) s
      have hbk := s1.1.blk
      have hfit : off + n * k + news.length ≤ all.length := by
        rw [hrl]
        have := Nat.mul_le_mul_right k hroom
        rw [Nat.add_mul] at this
        omega
      have hst := run_storeCells_at (P := P) g (off + n * k) e news 0 all.toArray w hbk (by simpa using hfit) h1
      have hf := run_firstCells_some (P := P) w k m ad m d news hrl hnews
      refine ⟨some ⟨g, off, none⟩, c, w.setRow g (putAt all (off + n * k) news).toArray, ?_, ?_, fun h => by cases h⟩
      · have hst' : (storeCells ⟨g, off + n * k, none⟩ news 0).run P w = .ok () (w.setRow g (putAt all (off + n * k) news).toArray) := by
          rw [putAt_eq _ _ _ hfit]; exact hst
        have hf' : (Builtin.firstCells k m (.slice (some ad) m d)).run P w = .ok news.toArray w := hf
        simp [Builtin.append_, run_underlying E.under, sizeOf, typeInfo, hi, hsz, Builtin.lenOf, hroom, hf', add_lit, hst']
      · refine .inl ⟨rfl, rfl, Own.close ?_ hroom hcm ?_ ?_ (s1.setRow _)⟩
        · rw [List.length_append, hl, hrl, Nat.add_mul]
        · rw [length_putAt]; exact hal
        · intro j u hu
          rw [putAt_eq _ _ _ hfit]
          rw [List.getElem?_append] at hu
          split at hu
          · rename_i hj
            have h := har j u hu
            rw [List.append_assoc, List.getElem?_append_left (by rw [List.length_take, Nat.min_eq_left (by omega)]; omega), List.getElem?_take, if_pos (by omega)]
            exact h
          · rename_i hj
            have hjn : j - cs.length < news.length := (List.getElem?_eq_some_iff.1 hu).1
            rw [List.append_assoc, List.getElem?_append_right (by rw [List.length_take, Nat.min_eq_left (by omega)]; omega), List.length_take, Nat.min_eq_left (by omega), List.getElem?_append_left (by omega)]
            rw [show off + j - (off + n * k) = j - cs.length by omega]
            exact hu
    · have hg : c < n + m := by omega
      have hge := grownCap_ge w (n + m) c e
      have hcm' : grownCap w (n + m) c e ≤ maxLen := grownCap_le_maxLen w (n + m) c e h63
      have hsmall : n + m ≤ 9223372036854775807 := by simp only [maxLen] at h63; omega
      have hnew : ∀ (olds : Array Value), olds.toList = cs → (Builtin.append_ #[t, t] ty #[.slice A n c, .slice (some ad) m d]).run P w =
          .ok (.slice (some ⟨w.heap.size, 0, none⟩) (n + m) (grownCap w (n + m) c e)) (w.drew.alloc (.cells (cs.toArray ++ news.toArray ++ Builtin.zeroCells z.cells (grownCap w (n + m) c e - (n + m))) e)) := by
        intro olds _
        cases A with
        | some ao =>
          have hrd := (Own.reads s.1).2.2 ao rfl
          exact run_append_grow (P := P) w t ty e i z E.under hi hz ao n c cs (by rw [hl, hsz]) hrd ad m d news (by rw [hrl, hsz]) hnews hg (by omega) (by rw [hby]; exact growslice_fits hg hb)
        | none =>
          have hc0 : c = 0 := by
            by_cases h0 : 0 < c
            · obtain ⟨g, off, all, h, _⟩ := Own.open_ h0 s; cases h
            · omega
          have hn0 : n = 0 := by omega
          subst hc0; subst hn0
          have : cs = [] := by simpa using hl
          subst this
          have := run_append_nil (P := P) w t ty e i z E.under hi hz ad m d news (by rw [hrl, hsz]) hnews hm0 (by omega) (by rw [Nat.zero_add] at hb; rw [hby]; omega)
          simpa using this
      refine ⟨_, _, _, hnew cs.toArray (by simp), ?_, fun h => by cases h⟩
      have s2 := (s.drew).alloc (cs ++ news ++ (Builtin.zeroCells z.cells (grownCap w (n + m) c e - (n + m))).toList) e
      have e2 : (cs ++ news ++ (Builtin.zeroCells z.cells (grownCap w (n + m) c e - (n + m))).toList).toArray = cs.toArray ++ news.toArray ++ Builtin.zeroCells z.cells (grownCap w (n + m) c e - (n + m)) := by
        apply Array.ext'; simp
      rw [e2] at s2
      refine .inr (Own.close (all := cs ++ news ++ (Builtin.zeroCells z.cells (grownCap w (n + m) c e - (n + m))).toList) ?_ hge hcm' ?_ ?_ s2)
      · rw [List.length_append, hl, hrl, Nat.add_mul]
      · have : (Builtin.zeroCells z.cells (grownCap w (n + m) c e - (n + m))).toList.length = (grownCap w (n + m) c e - (n + m)) * k := by rw [Array.length_toList, size_zeroCells, hzs]
        rw [List.length_append, List.length_append, this, hl, hrl, ← Nat.add_mul, ← Nat.add_mul]
        rw [show n + m + (grownCap w (n + m) c e - (n + m)) = grownCap w (n + m) c e by omega]
        omega
      · intro j u hu
        rw [Nat.zero_add, List.getElem?_append_left (List.getElem?_eq_some_iff.1 hu).1]
        exact hu

/-- append onto an owned row. -/
theorem run_append_own {t e k b : Nat} (E : Elt P t e k b) (hk : 0 < k) {A B : Option Addr} {n c m d : Nat} {cs news : List Value}
    (s : St W (Own e k A n c cs :: L) w) (hr : Reads w k B m news) (h1 : ∀ u ∈ news, u.oneCell' = true)
    (h63 : n + m ≤ maxLen) (hb : (n + m) * b ≤ 140737488355328) (ty : TypeId) :
    ∃ A' c' w1, (Builtin.append_ #[t, t] ty #[.slice A n c, .slice B m d]).run P w = .ok (.slice A' (n + m) c') w1 ∧ St W (Own e k A' (n + m) c' (cs ++ news) :: L) w1 ∧ (A' = none → A = none ∧ m = 0) := by
  obtain ⟨A', c', w1, hrun, hs, hn⟩ := run_append_both (P := P) E hk s hr h1 h63 hb ty (d := d)
  refine ⟨A', c', w1, hrun, ?_, hn⟩
  rcases hs with ⟨_, _, hs⟩ | hs
  · exact hs
  · exact St.perm (St.tail (St.perm hs (List.Perm.swap _ _ _))) (List.Perm.refl _)

theorem arm_append {d : Option Tmp} {ty : TypeId} {x y : Operand} {p : String} {af : Array Edge} {gd : Option (Nat × Bool)} {t e k b : Nat} (E : Elt P t e k b) (hk : 0 < k) (j : Nat) {A B : Option Addr} {n c m d' : Nat} {cs news : List Value}
    (hx : a.eval x = .slice A n c) (hy : a.eval y = .slice B m d') (hj : L[j]? = some (Own e k A n c cs)) (hr : Reads w k B m news) (h1 : ∀ u ∈ news, u.oneCell' = true)
    (h63 : n + m ≤ maxLen) (hb : (n + m) * b ≤ 140737488355328) (s : St W L w)
    (h : ∀ A' c' w1, (A' = none → A = none ∧ m = 0) → St W (L.set j (Own e k A' (n + m) c' (cs ++ news))) w1 → K (a.put d (.slice A' (n + m) c')) w1) :
    Oper.wp P { dst := d, op := .call { callee := .builtin .append, args := #[x, y], argTypes := #[t, t] }, type := ty, pos := p, after := af, guard := gd } a w K Q := by
  obtain ⟨A', c', w1, hrun, s1, hn⟩ := run_append_own (P := P) E hk (s.at_ hj) hr h1 h63 hb ty (d := d')
  unfold Oper.wp
  simp [execOp, resolve, invoke, builtin, hx, hy, hrun, Result.andThen]
  exact h A' c' w1 hn (s1.perm (perm_set hj _))

theorem arm_buildSlice {d : Option Tmp} {ty : TypeId} {p : String} {af : Array Edge} {gd : Option (Nat × Bool)} {t e k b : Nat} {len : Nat} {parts : Array (Nat × Operand)} (E : Elt P t e k b) (zs : Array Value) (hz : (P.info? e).bind (fun i => i.zero.map (·.cells)) = some zs) (cs : List Value)
    (hf : Instr.fill (fun i => some (i * k, k)) ((Array.range (len * k)).map (zs[· % zs.size]!)) (parts.toList.map fun x => (x.1, a.eval x.2)) = some cs.toArray) (hlen : len * k ≤ 16777216) (s : St W L w)
    (h : ∀ g w1, St W (.blk g cs e :: L) w1 → K (a.put d (.slice (some ⟨g, 0, none⟩) len len)) w1) :
    Oper.wp P { dst := d, op := .buildSlice t len parts, type := ty, pos := p, after := af, guard := gd } a w K Q := by
  obtain ⟨i, hi, hinf⟩ := Option.map_eq_some_iff.1 E.info
  simp only [Prod.mk.injEq] at hinf
  obtain ⟨_, hsz, _⟩ := hinf
  have hz' : ∃ z, i.zero = some z ∧ z.cells = zs := by
    rw [hi] at hz; simpa using hz
  obtain ⟨z, hz1, hz2⟩ := hz'
  have hg : ¬ (16777216 < len * k) := by omega
  have hrun : (Instr.buildSlice t len (parts.map fun (i, x) => (i, a.eval x))).run P w = .ok (.slice (some ⟨w.heap.size, 0, none⟩) len len) (w.alloc (.cells cs.toArray e)) := by
    have e0 : ∀ f : Nat → Value, Array.map f (Array.range 0) = #[] := fun f => by simp
    by_cases h0 : len * k = 0
    · rw [h0, e0] at hf
      simp [Instr.buildSlice, run_underlying E.under, sizeOf, typeInfo, hi, hsz, h0, e0, hf, newRow]
    · simp [Instr.buildSlice, run_underlying E.under, sizeOf, typeInfo, zeroValue, hi, hsz, h0, hg, hz1, hz2, hf, newRow]
  unfold Oper.wp
  simp only [execOp]
  simp [hrun]
  exact h _ _ (s.alloc cs e)

end
end Go.Proofs.YtagbmfdheppmoaaGreatDoor.Sep
