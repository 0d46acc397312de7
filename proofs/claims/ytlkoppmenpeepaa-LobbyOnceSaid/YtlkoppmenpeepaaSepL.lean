import Derived.Test.YtlkoppmenpeepaaSepE
/-
  clear of a slice's tail; a slice that is made shorter and keeps its row.
-/
namespace Go.Proofs.Ytlkoppmenpeepaa.Sep
open Go.RowKit
set_option linter.unusedVariables false
section
variable {P : Program} {w W : World} {L : List Chunk} {E : Env} {o : Oper}
theorem mem_zeroCells {z : Array Value} {n : Nat} {v : Value} (h : v ∈ (Builtin.zeroCells z n).toList) : v ∈ z.toList := by
  simp only [Builtin.zeroCells, Array.toList_map, List.mem_map] at h
  obtain ⟨i, hi, rfl⟩ := h
  have hi : i < n * z.size := by simpa using hi
  have hz : 0 < z.size := by
    rcases Nat.eq_zero_or_pos z.size with h | h
    · rw [h] at hi; simp at hi
    · exact h
  have := Nat.mod_lt i hz
  rw [getElem!_pos z (i % z.size) this]
  exact Array.getElem_mem_toList _
theorem len_zeroCells (z : Array Value) (n : Nat) : (Builtin.zeroCells z n).toList.length = n * z.size := by simp [Builtin.zeroCells]
/-- The first i elements of a row that is owned, whatever lies behind them. -/
theorem Own.less {e k : Nat} {A : Option Addr} {n c i : Nat} {cs : List Value} (s : St W (Own e k A n c cs :: L) w) (hi : i ≤ n) : St W (Own e k A i c (cs.take (i * k)) :: L) w := by
  have hle : i * k ≤ n * k := Nat.mul_le_mul_right k hi
  refine ⟨s.1.head_imp fun h x => ?_, s.2⟩
  obtain ⟨x1, x2, x3, x⟩ := x
  refine ⟨by rw [List.length_take]; omega, by omega, x3, ?_⟩
  rcases x with hc | ⟨g, off, all, h1, h2, h3, h4⟩
  · exact .inl hc
  · exact .inr ⟨g, off, all, h1, h2, h3, fun j u hu => h4 j u (by
      rw [List.getElem?_take] at hu
      split at hu
      · exact hu
      · cases hu)⟩
/-- clear(s[i:]): what is left to know is the first i elements. -/
theorem ex_clear {t e k b n c i : Nat} {x : Operand} {A : Option Addr} {cs : List Value} {z : Value} (T : Elt P t e k b) (j : Nat) (s : St W L w) (hj : L[j]? = some (Own e k A n c cs))
    (ho : o.op = .call { callee := .builtin .clear, args := #[x], argTypes := #[t] }) (hx : evalE E x = .slice (slA A i c k) (n - i) (c - i)) (hi : i ≤ n) (hz : ∀ w, (zeroValue e).run P w = .ok z w) (hzk : z.cells.size = k) (h1 : ∀ v ∈ z.cells.toList, v.oneCell' = true) :
    ∃ v w1, (execOp (evalE E) o).run P w = .ok (.value v) w1 ∧ v = .tuple #[] ∧ St W (L.set j (Own e k A i c (cs.take (i * k)))) w1 := by
  have s1 := s.at_ hj
  obtain ⟨f1, f2, f3⟩ := Own.facts s1.1
  by_cases hin : i = n
  · subst hin
    have hr : (Builtin.clear_ #[t] o.type #[.slice (slA A i c k) 0 (c - i)]).run P w = .ok (.tuple #[]) w := by
      cases slA A i c k <;> simp [Builtin.clear_, run_underlying T.under]
    rw [Nat.sub_self] at hx
    refine ⟨_, w, ?_, rfl, (Own.less s1 (Nat.le_refl _)).perm (perm_set hj _)⟩
    simp [execOp, ho, resolve, invoke, builtin, hx, hr, Result.andThen]
  · have hlt : i < n := by omega
    have hc : 0 < c := by omega
    have hle : i * k ≤ n * k := Nat.mul_le_mul_right k hi
    have hle2 : n * k ≤ c * k := Nat.mul_le_mul_right k f2
    have hsub : (n - i) * k = n * k - i * k := Nat.sub_mul n i k
    obtain ⟨g, off, all, ha, hal, har, s2⟩ := Own.open_ hc s1
    subst ha
    have hA : slA (some ⟨g, off, none⟩) i c k = some ⟨g, off + i * k, none⟩ := by
      unfold slA
      rw [if_neg (by omega), Option.map_some, add_lit]
    rw [hA] at hx
    have hst := run_storeCells_at (P := P) g (off + i * k) e (Builtin.zeroCells z.cells (n - i)).toList 0 all.toArray w s2.1.blk (by rw [len_zeroCells, hzk, hsub]; simp; omega) (fun v hv => h1 v (mem_zeroCells hv))
    obtain ⟨m, hm⟩ : ∃ m, n - i = m + 1 := ⟨n - i - 1, by omega⟩
    have hst' : (storeCells ⟨g, off + i * k, none⟩ (Builtin.zeroCells z.cells (n - i)).toList).run P w = _ := hst
    have hr : (Builtin.clear_ #[t] o.type #[.slice (some ⟨g, off + i * k, none⟩) (n - i) (c - i)]).run P w = .ok (.tuple #[]) (w.setRow g (putAt all (off + i * k) (Builtin.zeroCells z.cells (n - i)).toList).toArray) := by
      rw [hm] at hst' ⊢
      have e1 : off + i * k + ((m + 1) * k) ≤ all.length := by rw [← hm, hsub]; omega
      rw [putAt_eq _ _ _ (by rw [len_zeroCells, hzk]; exact e1)]
      simp [Builtin.clear_, run_underlying T.under, hz, hst']
    refine ⟨_, w.setRow g (putAt all (off + i * k) (Builtin.zeroCells z.cells (n - i)).toList).toArray, ?_, rfl, ?_⟩
    · simp [execOp, ho, resolve, invoke, builtin, hx, hr, Result.andThen]
    · have s3 : St W (.blk g (putAt all (off + i * k) (Builtin.zeroCells z.cells (n - i)).toList) e :: L.eraseIdx j) _ := s2.setRow (putAt all (off + i * k) (Builtin.zeroCells z.cells (n - i)).toList)
      have s4 := Own.close (n := i) (k := k) (c := c) (off := off) (cs := cs.take (i * k)) (by rw [List.length_take]; omega) (by omega) f3 (by rw [length_putAt]; exact hal) (fun q u hu => ?_) s3
      · exact s4.perm (perm_set hj _)
      · rw [List.getElem?_take] at hu
        split at hu
        · rw [putAt_get, if_neg (by omega)]; exact har q u hu
        · cases hu
end
end Go.Proofs.Ytlkoppmenpeepaa.Sep
