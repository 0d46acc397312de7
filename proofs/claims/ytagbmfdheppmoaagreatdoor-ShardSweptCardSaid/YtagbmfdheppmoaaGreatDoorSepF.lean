import Derived.Test.YtagbmfdheppmoaaGreatDoorSepH
/-
  A head's orders that meet again (Head.fork); three operations that may come first; append onto a slice that is full: what it was made of stays as it is.
-/
namespace Go.Proofs.YtagbmfdheppmoaaGreatDoor.Sep
open Go.RowKit
set_option linter.unusedVariables false
section
variable {P : Program} {ops : Array Oper} {Q : Exit → Act → World → Prop} {a : Act} {w W : World} {L : List Chunk} {o : Oper} {N : Nat} {E : Env} {S : World → Prop}
theorem and_keep {p q : Prop} (h : p) (k : p → q) : p ∧ q := ⟨h, k h⟩
theorem Head.fork {n g f k : Nat} {listed : Array Bool} (D : List Bool) (R : Act → World → Prop)
    (h : (∀ (l : Array Bool) (a : Act) (w : World), (l.toList == D) = true → R a w → Head P .any ops Q S n g k l a w) → Head P .any ops Q S n g f listed a w)
    (hK : ∀ a w, R a w → Head P .any ops Q S n g k D.toArray a w) : Head P .any ops Q S n g f listed a w :=
  h fun l a w hl hR => by
    have e : l.toList = D := eq_of_beq hl
    have : l = D.toArray := by rw [← e]
    rw [this]; exact hK a w hR
theorem Head.three {n g f i j k : Nat} {listed : Array Bool} (hB : (decide (Region.ready .any ops listed = [i, j, k]) && (decide (i < n) && decide (j < n) && decide (k < n))) = true)
    (h1 : HeadAt P ops Q S n g f i listed a w) (h2 : HeadAt P ops Q S n g f j listed a w) (h3 : HeadAt P ops Q S n g f k listed a w) : Head P .any ops Q S n g (f + 1) listed a w := by
  simp only [Bool.and_eq_true, decide_eq_true_eq] at hB
  obtain ⟨hr, ⟨hin, hjn⟩, hkn⟩ := hB
  refine ⟨fun inv => ⟨fun h0 => (by rw [hr] at h0; cases h0), fun q hq => ?_⟩⟩
  have hq' := hq
  rw [hr] at hq
  rcases List.mem_cons.1 hq with rfl | hq
  · exact ⟨hin, h1 hq' hin inv⟩
  · rcases List.mem_cons.1 hq with rfl | hq
    · exact ⟨hjn, h2 hq' hjn inv⟩
    · have : q = k := by simpa using hq
      subst this
      exact ⟨hkn, h3 hq' hkn inv⟩
theorem run_append_fresh {t e k b : Nat} (E : Elt P t e k b) {A B : Option Addr} {n m d : Nat} {cs news : List Value}
    (s : St W L w) (ho : Reads w k A n cs) (hr : Reads w k B m news) (hm0 : 0 < m) (hk : 0 < k)
    (h63 : n + m ≤ maxLen) (hb : (n + m) * b ≤ 140737488355328) (ty : TypeId) :
    ∃ A' c' w1, (Builtin.append_ #[t, t] ty #[.slice A n n, .slice B m d]).run P w = .ok (.slice A' (n + m) c') w1 ∧ St W (Own e k A' (n + m) c' (cs ++ news) :: L) w1 := by
  obtain ⟨hl, hon, hor⟩ := ho
  obtain ⟨hrl, hrn, hrr⟩ := hr
  obtain ⟨i, hi, hinf⟩ := Option.map_eq_some_iff.1 E.info
  simp only [Prod.mk.injEq] at hinf
  obtain ⟨hz, hsz, hby⟩ := hinf
  obtain ⟨z, hz, hzs⟩ := Option.map_eq_some_iff.1 hz
  have hB : B ≠ none := hrn (Nat.mul_pos hm0 hk)
  obtain ⟨ad, rfl⟩ : ∃ ad, B = some ad := by cases B with | none => exact absurd rfl hB | some ad => exact ⟨ad, rfl⟩
  have hnews := hrr ad rfl
  have hg : n < n + m := by omega
  have hge := grownCap_ge w (n + m) n e
  have hcm' : grownCap w (n + m) n e ≤ maxLen := grownCap_le_maxLen w (n + m) n e h63
  have hsmall : n + m ≤ 9223372036854775807 := by simp only [maxLen] at h63; omega
  have hnew : (Builtin.append_ #[t, t] ty #[.slice A n n, .slice (some ad) m d]).run P w =
      .ok (.slice (some ⟨w.heap.size, 0, none⟩) (n + m) (grownCap w (n + m) n e)) (w.drew.alloc (.cells (cs.toArray ++ news.toArray ++ Builtin.zeroCells z.cells (grownCap w (n + m) n e - (n + m))) e)) := by
    cases A with
    | some ao =>
      exact run_append_grow (P := P) w t ty e i z E.under hi hz ao n n cs (by rw [hl, hsz]) (hor ao rfl) ad m d news (by rw [hrl, hsz]) hnews hg (by omega) (by rw [hby]; exact growslice_fits hg hb)
    | none =>
      have hn0 : n = 0 := by
        rcases Nat.eq_zero_or_pos n with h | h
        · exact h
        · exact absurd rfl (hon (Nat.mul_pos h hk))
      subst hn0
      have : cs = [] := by simpa using hl
      subst this
      have := run_append_nil (P := P) w t ty e i z E.under hi hz ad m d news (by rw [hrl, hsz]) hnews hm0 (by omega) (by rw [Nat.zero_add] at hb; rw [hby]; omega)
      simpa using this
  refine ⟨_, _, _, hnew, ?_⟩
  have s2 := (s.drew).alloc (cs ++ news ++ (Builtin.zeroCells z.cells (grownCap w (n + m) n e - (n + m))).toList) e
  have e2 : (cs ++ news ++ (Builtin.zeroCells z.cells (grownCap w (n + m) n e - (n + m))).toList).toArray = cs.toArray ++ news.toArray ++ Builtin.zeroCells z.cells (grownCap w (n + m) n e - (n + m)) := by
    apply Array.ext'; simp
  rw [e2] at s2
  refine Own.close (all := cs ++ news ++ (Builtin.zeroCells z.cells (grownCap w (n + m) n e - (n + m))).toList) ?_ hge hcm' ?_ ?_ s2
  · rw [List.length_append, hl, hrl, Nat.add_mul]
  · have : (Builtin.zeroCells z.cells (grownCap w (n + m) n e - (n + m))).toList.length = (grownCap w (n + m) n e - (n + m)) * k := by rw [Array.length_toList, size_zeroCells, hzs]
    rw [List.length_append, List.length_append, this, hl, hrl, ← Nat.add_mul, ← Nat.add_mul]
    rw [show n + m + (grownCap w (n + m) n e - (n + m)) = grownCap w (n + m) n e by omega]
    omega
  · intro j u hu
    rw [Nat.zero_add, List.getElem?_append_left (List.getElem?_eq_some_iff.1 hu).1]
    exact hu
theorem ex_append_fresh {x y : Operand} {t e k b : Nat} (T : Elt P t e k b) (hk : 0 < k) {A B : Option Addr} {n m d' : Nat} {cs : List Value} (news : List Value) (s : St W L w)
    (ho : o.op = .call { callee := .builtin .append, args := #[x, y], argTypes := #[t, t] })
    (hx : evalE E x = .slice A n n) (hy : evalE E y = .slice B m d') (hold : Reads w k A n cs) (hr : Reads w k B m news) (hm : 0 < m)
    (h63 : n + m ≤ maxLen) (hb : (n + m) * b ≤ 140737488355328) :
    ∃ v w1, (execOp (evalE E) o).run P w = .ok (.value v) w1 ∧ ∃ A' c', v = .slice A' (n + m) c' ∧ St W (Own e k A' (n + m) c' (cs ++ news) :: L) w1 := by
  obtain ⟨A', c', w1, hrun, s1⟩ := run_append_fresh (P := P) T s hold hr hm hk h63 hb o.type (d := d')
  refine ⟨_, w1, ?_, A', c', rfl, s1⟩
  simp [execOp, ho, resolve, invoke, builtin, hx, hy, hrun]
end
end Go.Proofs.YtagbmfdheppmoaaGreatDoor.Sep
