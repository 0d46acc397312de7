import Derived.Test.YtfcbjcohepkkfaaGreatJ3b
import Derived.Test.YtfcbjcohepkkfaaGreatSepY
namespace Go.Proofs.YtfcbjcohepkkfaaGreat.B
open Go.RowKit Go.Maps Go.Sort Go.Shelf Go.Proofs.YtfcbjcohepkkfaaGreat.Sep Go.Proofs.YtfcbjcohepkkfaaGreat.P
set_option linter.unusedVariables false
set_option linter.unusedSimpArgs false
/-! ### an event is taken in -/
def downTx (nd : Int) (t : Tx) : Tx := if t.node = nd then { t with stand := 2 } else t
def dnAt (nd : Int) (V : List Nat) (T : List (Int × Nat × Tx)) : List (Int × Nat × Tx) := T.mapIdx fun q x => if q ∈ V then (x.1, x.2.1, downTx nd x.2.2) else x
theorem dnAt_at (nd : Int) (V : List Nat) (T : List (Int × Nat × Tx)) (q : Nat) : (dnAt nd V T)[q]? = T[q]?.map fun x => if q ∈ V then (x.1, x.2.1, downTx nd x.2.2) else x := by simp [dnAt]
theorem dnAt_len (nd : Int) (V : List Nat) (T : List (Int × Nat × Tx)) : (dnAt nd V T).length = T.length := by simp [dnAt]
theorem dnAt_nil (nd : Int) (T : List (Int × Nat × Tx)) : dnAt nd [] T = T := by
 apply List.ext_getElem?; intro q; rw [dnAt_at]; cases T[q]? <;> simp
theorem dnAt_snoc {nd : Int} {V : List Nat} {T : List (Int × Nat × Tx)} {q b : Nat} {i : Int} {t : Tx} (h : T[q]? = some (i, b, t)) : (dnAt nd V T).set q (i, b, downTx nd t) = dnAt nd (V ++ [q]) T := by
 obtain ⟨hq, _⟩ := List.getElem?_eq_some_iff.1 h
 apply List.ext_getElem?
 intro r
 rw [List.getElem?_set, dnAt_at, dnAt_at]
 by_cases hr : q = r
 ·
  subst hr
  rw [if_pos rfl, if_pos (by rw [dnAt_len]; exact hq), h]; simp
 rw [if_neg hr]
 cases T[r]? with
 | none => rfl
 | some x => simp [Ne.symm hr]
theorem dnAt_ids (nd : Int) (V : List Nat) (T : List (Int × Nat × Tx)) : (dnAt nd V T).map ent = T.map ent := by
 apply List.ext_getElem?; intro q
 rw [List.getElem?_map, List.getElem?_map, dnAt_at]
 cases T[q]? with
 | none => rfl
 | some x => by_cases h : q ∈ V <;> simp [h, ent]
theorem dnAt_all {nd : Int} {V : List Nat} {T : List (Int × Nat × Tx)} (h : ∀ q, q < T.length → q ∈ V) : dnAt nd V T = T.map fun x => (x.1, x.2.1, downTx nd x.2.2) := by
 apply List.ext_getElem?; intro q
 rw [dnAt_at, List.getElem?_map]
 cases e : T[q]? with
 | none => rfl
 | some x => simp [h q (List.getElem?_eq_some_iff.1 e).1]
theorem txOf_down {nd : Int} (hnd : nd ≠ 0) (T : List (Int × Nat × Tx)) (i : Int) : txOf (T.map fun x => (x.1, x.2.1, downTx nd x.2.2)) i = downTx nd (txOf T i) := by
 unfold txOf
 rw [List.find?_map]
 rw [show ((fun x : Int × Nat × Tx => decide (x.1 = i)) ∘ fun x : Int × Nat × Tx => (x.1, x.2.1, downTx nd x.2.2)) = fun x => decide (x.1 = i) from rfl]
 cases T.find? fun x => decide (x.1 = i) with
 | some x => rfl
 | none => unfold downTx; rw [if_neg (by show ¬ (0 : Int) = nd; exact Ne.symm hnd)]; rfl
theorem LkOk.down {k : Look} {Dd : List (Int × Value)} {T : List (Int × Nat × Tx)} {n : Nat} (h : LkOk k Dd T n) {x : Ev} (hx : x.kind = 5) (hn : 1 ≤ x.node) : LkOk (seeL k x) (mput Dd x.node (.bool true)) (T.map fun y => (y.1, y.2.1, downTx x.node y.2.2)) (n + 1) := by
 refine ⟨fun m => ?_, fun i => ?_, ?_, ⟨?_, ?_⟩, ?_⟩
 ·
  rw [mget_mput]
  unfold seeL
  by_cases hm : m = x.node
  ·
   simp [hm, hx]
  simp only [hm, and_false, if_false]; exact h.dn m
 ·
  rw [txOf_down (by omega), h.tx]; unfold seeL stepTx downTx; simp [hx]
 ·
  rw [List.map_map]; exact h.nodup
 ·
  have := mput_length_le Dd x.node (.bool true); have := h.room.1; omega
 ·
  rw [List.length_map]; have := h.room.2; omega
 unfold seeL; simp only [hx]; exact h.most
theorem LkOk.upE {k : Look} {Dd : List (Int × Value)} {T : List (Int × Nat × Tx)} {n : Nat} (h : LkOk k Dd T n) {x : Ev} (hx : x.kind = 6) : LkOk (seeL k x) (mdel Dd x.node) T (n + 1) := by
 refine ⟨fun m => ?_, fun i => ?_, h.nodup, ⟨?_, ?_⟩, ?_⟩
 ·
  rw [mget_mdel]
  unfold seeL
  by_cases hm : m = x.node
  ·
   simp [hm, hx]
  simp only [hm, and_false, if_false]; exact h.dn m
 ·
  rw [h.tx]; unfold seeL stepTx; simp [hx]
 ·
  have : (mdel Dd x.node).length ≤ Dd.length := List.length_filter_le _ _; have := h.room.1; omega
 ·
  have := h.room.2; omega
 unfold seeL; simp only [hx]; exact h.most
theorem LkOk.own {k : Look} {Dd : List (Int × Value)} {T : List (Int × Nat × Tx)} {n q b : Nat} (h : LkOk k Dd T n) {x : Ev} (hx : x.kind ≤ 4) (hid : 1 ≤ x.id ∧ x.id ≤ 9007199254740991) (ht : T[q]? = some (x.id, b, k.tx x.id)) {t2 : Tx} (h2 : endTx x (ownTx x (k.tx x.id)) = t2) : LkOk (seeL k x) Dd (T.set q (x.id, b, t2)) n := by
 refine ⟨fun m => ?_, fun i => ?_, by rw [ids_set ht]; exact h.nodup, ⟨h.room.1, by rw [List.length_set]; exact h.room.2⟩, ?_⟩
 ·
  have h5 : ¬ x.kind = 5 := by omega
  have h6 : ¬ x.kind = 6 := by omega
  unfold seeL; simp only [h5, h6, false_and, if_false]; exact h.dn m
 ·
  have h5 : ¬ x.kind = 5 := by omega
  have h6 : ¬ x.kind = 6 := by omega
  rw [txOf_set h.nodup ht]
  unfold seeL stepTx
  simp only [h5, h6, if_false]
  by_cases hi : i = x.id
  ·
   rw [if_pos hi, if_pos hi, hi]; exact h2.symm
  rw [if_neg hi, if_neg hi]; exact h.tx i
 unfold seeL; dsimp only; split
 ·
  omega
 exact h.most
theorem left_meas {n q : Nat} {V : List Nat} (hq : q < n) (hv : q ∉ V) : ((List.range n).filter fun r => decide (r ∉ V ++ [q])).length < ((List.range n).filter fun r => decide (r ∉ V)).length :=
 Go.filter_lt _ _ (fun r hr => by simp at hr ⊢; exact hr.1) q (by simpa using hv) (by simp) _ (List.mem_range.2 hq)

end Go.Proofs.YtfcbjcohepkkfaaGreat.B
