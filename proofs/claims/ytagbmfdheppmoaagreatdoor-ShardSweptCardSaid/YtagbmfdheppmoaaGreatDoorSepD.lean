import Derived.Test.YtagbmfdheppmoaaGreatDoorSepO
import Derived.Deep.Slices
import Derived.Deep.Strs
import Derived.OpenShut
/-
  Data that came in, opened by its type: whole numbers, Booleans, strings, structs, slices of whatever.
-/
namespace Go.Proofs.YtagbmfdheppmoaaGreatDoor.Sep
open Go.RowKit Go.ChangeShapes Go.WideShapes Go.Deep
set_option linter.unusedVariables false

/-- Cells that came in as data of type t. -/
def Came (P : Program) (W : World) (t : TypeId) (cs : List Value) : Prop :=
  ∃ (H : Type) (enc : TypeId × Value → H) (base : Nat) (spare : Nat → Bool) (held : Bool) (fuel : Nat) (d : DataW H) (pl : List MemPlace), DataW.trod enc P W base spare held fuel t cs = some (d, pl) ∧ ∀ m ∈ d.weights P t, m ≤ 140737488351232
section
variable {P : Program} {W : World} {t e : TypeId} {cs : List Value}
theorem Came.arg {H : Type} {enc : TypeId × Value → H} {base : Nat} {spare : Nat → Bool} {held : Bool} {v : Value} {d : DataW H} {ps : List MemPlace} {ts : List TypeId} {ds : List (DataW H)} {j : Nat}
    (hsz : (DataW.weightsEach P ts ds).all (· ≤ reachBytes) = true) (ht : ts[j]? = some t) (hd : ds[j]? = some d) (h : DataW.Trod enc P W base spare held t v d ps) : Came P W t v.cells.toList := by
  obtain ⟨fuel, hf⟩ := h
  refine ⟨H, enc, base, spare, held, fuel, d, ps, hf, fun m hm => ?_⟩
  have := List.all_eq_true.1 hsz _ (DataW.weights_mem_each ht hd m hm)
  have hb : reachBytes = 140737488351232 ∨ reachBytes ≤ 140737488351232 := by decide
  have := of_decide_eq_true this
  rcases hb with hb | hb <;> omega
theorem Came.int {k : IntKind} (ht : P.underlying t = some (.int k)) (h : Came P W t cs) : ∃ z, cs = [.int k z] ∧ (Lit.int k z).wf = true := by
  obtain ⟨H, enc, base, spare, held, fuel, d, pl, h, hw⟩ := h
  obtain ⟨z, rfl, _, w⟩ := DataW.trod_int ht h
  exact ⟨z, rfl, w⟩
theorem Came.bool (ht : P.underlying t = some .bool) (h : Came P W t cs) : ∃ b, cs = [.bool b] := by
  obtain ⟨H, enc, base, spare, held, fuel, d, pl, h, hw⟩ := h
  obtain ⟨b, rfl, _⟩ := DataW.trod_bool ht h
  exact ⟨b, rfl⟩
theorem Came.string (ht : P.underlying t = some .string) (h : Came P W t cs) : ∃ s : ByteArray, cs = [.string s] ∧ s.size ≤ 140737488351232 := by
  obtain ⟨H, enc, base, spare, held, fuel, d, pl, h, hw⟩ := h
  obtain ⟨s, rfl, hx, hm⟩ := DataW.trod_string ht h
  obtain ⟨rfl, rfl⟩ := Prod.mk.inj hx
  refine ⟨s, rfl, ?_⟩
  have := hw _ (by simp [DataW.weights]; rfl)
  simpa using this
theorem weights_each {H : Type} : ∀ {ts : List TypeId} {ds : List (DataW H)} {i : Nat} {t : TypeId} {d : DataW H}, ts[i]? = some t → ds[i]? = some d → ∀ m ∈ d.weights P t, m ∈ DataW.weightsEach P ts ds := DataW.weights_mem_each
theorem weights_all {H : Type} : ∀ {ds : List (DataW H)} {d : DataW H}, d ∈ ds → ∀ m ∈ d.weights P e, m ∈ DataW.weightsAll P e ds
  | a :: r, d, hd, m, hm => by
    simp only [DataW.weightsAll, List.mem_append]
    rcases List.mem_cons.1 hd with rfl | hd
    · exact .inl hm
    · exact .inr (weights_all hd m hm)
theorem Came.struct {fs : Array Field} (ht : P.underlying t = some (.struct fs)) (h : Came P W t cs) : cs.length = P.cellsOf t ∧ ∀ (i : Nat) (f : Field), fs[i]? = some f → Came P W f.type ((cs.drop f.offset).take (P.cellsOf f.type)) := by
  obtain ⟨H, enc, base, spare, held, fuel, d, pl, h, hw⟩ := h
  obtain ⟨xs, n, _, hx, hl, hlen, hf⟩ := DataW.trod_struct ht h
  obtain ⟨rfl, rfl⟩ := Prod.mk.inj hx
  refine ⟨hl, fun i f hi => ?_⟩
  have h1 := hf i f hi
  have hil : i < xs.length := by rw [hlen]; exact (Array.getElem?_eq_some_iff.1 hi).1
  rw [List.getElem?_eq_getElem hil] at h1
  refine ⟨H, enc, base, spare, held, n, xs[i].1, xs[i].2, h1, fun m hm => hw m ?_⟩
  simp only [DataW.weights, ht]
  exact weights_each (i := i) (t := f.type) (d := xs[i].1) (by simp [hi]) (by simp [hil]) m hm
theorem Came.array {n k : Nat} (ht : P.underlying t = some (.array n e)) (hk : P.cellsOf e = k) (h : Came P W t cs) : cs.length = P.cellsOf t ∧ ∀ i, i < n → Came P W e ((cs.drop (i * k)).take k) := by
  subst hk
  obtain ⟨H, enc, base, spare, held, fuel, d, pl, h, hw⟩ := h
  obtain ⟨xs, m, _, hx, hl, hlen, hf⟩ := DataW.trod_array ht h
  obtain ⟨rfl, rfl⟩ := Prod.mk.inj hx
  refine ⟨hl, fun i hi => ?_⟩
  have h1 := hf i hi
  have hil : i < xs.length := by omega
  rw [List.getElem?_eq_getElem hil] at h1
  refine ⟨H, enc, base, spare, held, m, xs[i].1, xs[i].2, h1, fun m' hm => hw m' ?_⟩
  simp only [DataW.weights, ht]
  exact weights_all (d := xs[i].1) (List.mem_map.2 ⟨xs[i], List.getElem_mem hil, rfl⟩) m' hm
theorem okWide_array {r : Reach} {base n : Nat} {v : Value} (ht : P.underlying t = some (.array n e)) (h : Value.okWide P W r base t v) : ∃ cs, v = .agg cs ∧ cs.size = P.cellsOf t := by
  simp only [Value.okWide, ht] at h
  obtain ⟨cs, h1, h2, _⟩ := h
  exact ⟨cs, h1, h2⟩
theorem flatten_at {k : Nat} : ∀ {rows : List (List Value)} (_ : ∀ r ∈ rows, r.length = k) {i : Nat} {r : List Value} (_ : rows[i]? = some r) {j : Nat} (_ : j < k), rows.flatten[i * k + j]? = r[j]?
  | a :: rows, h, 0, r, hi, j, hj => by
    simp only [List.getElem?_cons_zero, Option.some.injEq] at hi
    subst hi
    have := h a (by simp)
    rw [Nat.zero_mul, Nat.zero_add, List.flatten_cons, List.getElem?_append_left (by omega)]
  | a :: rows, h, i + 1, r, hi, j, hj => by
    have ha := h a (by simp)
    rw [List.flatten_cons, Nat.add_mul, Nat.one_mul, List.getElem?_append_right (by omega), show i * k + k + j - a.length = i * k + j by omega]
    exact flatten_at (fun r hr => h r (by simp [hr])) (by simpa using hi) hj
theorem flatten_len {k : Nat} : ∀ {rows : List (List Value)} (_ : ∀ r ∈ rows, r.length = k), rows.flatten.length = rows.length * k
  | [], _ => by simp
  | a :: rows, h => by
    have := flatten_len (rows := rows) fun r hr => h r (by simp [hr])
    have := h a (by simp)
    rw [List.flatten_cons, List.length_append, List.length_cons, Nat.add_mul]; omega
theorem flatten_div {k : Nat} {rows : List (List Value)} (h : ∀ r ∈ rows, r.length = k) {x : Nat} {u : Value} (hx : rows.flatten[x]? = some u) : ∃ i r j, rows[i]? = some r ∧ j < k ∧ x = i * k + j ∧ r[j]? = some u := by
  have hl := (List.getElem?_eq_some_iff.1 hx).1
  rw [flatten_len h] at hl
  have hk : 0 < k := by
    rcases Nat.eq_zero_or_pos k with rfl | hk
    · simp at hl
    · exact hk
  have hi : x / k < rows.length := (Nat.div_lt_iff_lt_mul hk).2 hl
  have hj : x % k < k := Nat.mod_lt _ hk
  have e : x = x / k * k + x % k := by rw [Nat.mul_comm]; exact (Nat.div_add_mod x k).symm
  refine ⟨x / k, rows[x / k], x % k, List.getElem?_eq_getElem hi, hj, e, ?_⟩
  rw [← flatten_at h (List.getElem?_eq_getElem hi) hj, ← e]
  exact hx
theorem Came.slice {k B : Nat} (ht : P.underlying t = some (.slice e)) (hk : P.cellsOf e = k) (hB : P.bytesOf e = B) (h : Came P W t cs) :
    ∃ A n c, cs = [.slice A n c] ∧ n ≤ c ∧ n * B ≤ 140737488351232 ∧ ∃ rows : List (List Value), rows.length = n ∧ Reads W k A n rows.flatten ∧ ∀ r ∈ rows, r.length = k ∧ Came P W e r := by
  obtain ⟨H, enc, base, spare, held, fuel, d, pl, h, hw⟩ := h
  rcases open_slice ht h with ⟨rfl, hx⟩ | ⟨a, len, cap, m, n, D, Pl, rfl, hb, hl, hm, hmm, hx, hel⟩
  · exact ⟨none, 0, 0, rfl, Nat.le_refl _, by simp, [], rfl, ⟨by simp, by simp, by simp⟩, by simp⟩
  · obtain ⟨rfl, rfl⟩ := Prod.mk.inj hx
    have hlm : len ≤ m := by rw [hmm]; split <;> omega
    obtain ⟨f, hf⟩ := choose_lt (α := List Value) (p := fun i cs' => W.cells? base (a.add (i * P.cellsOf e)) (P.cellsOf e) = some cs' ∧ DataW.trod enc P W base spare held n e cs' = some (D i, Pl i)) hel
    rw [hk] at hf
    have hlen : ∀ i, i < len → (f i).length = k := fun i hi => (World.cells?_some (hf i (by omega)).1).2.1
    have hall : ∀ r ∈ (List.range len).map f, r.length = k := by
      intro r hr
      obtain ⟨i, hi, rfl⟩ := List.mem_map.1 hr
      exact hlen i (List.mem_range.1 hi)
    refine ⟨some a, len, cap, rfl, hl, ?_, (List.range len).map f, by simp, ⟨?_, by simp, ?_⟩, fun r hr => ⟨hall r hr, ?_⟩⟩
    · have := hw ((((List.range len).map D).length + ((List.range (m - len)).map fun j => D (len + j)).length) * P.bytesOf e) (by simp [DataW.weights, ht])
      rw [hB] at this
      refine Nat.le_trans (Nat.mul_le_mul_right B ?_) this
      simp
    · rw [flatten_len hall]; simp
    · intro ad ea j u hu
      cases ea
      obtain ⟨i, r, j', hi, hj, rfl, hr⟩ := flatten_div hall hu
      obtain ⟨hil, hir⟩ := List.getElem?_eq_some_iff.1 hi
      simp at hil hir
      subst hir
      have := (World.cells?_some (hf i (by omega)).1).2.2 j' hj
      rw [← addr_add_add, this]
      exact hr
    · obtain ⟨i, hi, rfl⟩ := List.mem_map.1 hr
      have hi := List.mem_range.1 hi
      refine ⟨H, enc, base, spare, held, n, D i, Pl i, (hf i (by omega)).2, fun m' hm' => hw m' ?_⟩
      simp only [DataW.weights, ht]
      refine List.mem_cons_of_mem _ (List.mem_append.2 (.inl (weights_all (d := D i) ?_ m' hm')))
      exact List.mem_map.2 ⟨i, List.mem_range.2 hi, rfl⟩
/-- Rows that are all spelt by f. -/
theorem spelt {α β : Type} {f : α → β} {p : α → Prop} : ∀ {rows : List β} (_ : ∀ r ∈ rows, ∃ v, r = f v ∧ p v), ∃ vs : List α, rows = vs.map f ∧ ∀ v ∈ vs, p v
  | [], _ => ⟨[], rfl, by simp⟩
  | r :: rows, h => by
    obtain ⟨v, hv, pv⟩ := h r (by simp)
    obtain ⟨vs, hvs, pvs⟩ := spelt (rows := rows) fun r hr => h r (by simp [hr])
    exact ⟨v :: vs, by rw [hv, hvs]; rfl, fun x hx => by
      rcases List.mem_cons.1 hx with rfl | hx
      · exact pv
      · exact pvs x hx⟩
theorem flat_ints (k : IntKind) (zs : List Int) : (zs.map fun z => [Value.int k z]).flatten = zs.map (.int k) := by
  induction zs with
  | nil => rfl
  | cons z zs ih => simp [ih]
theorem Came.ints {k : IntKind} {B : Nat} (ht : P.underlying t = some (.slice e)) (he : P.underlying e = some (.int k)) (hk : P.cellsOf e = 1) (hB : P.bytesOf e = B) (h : Came P W t cs) :
    ∃ A n c, cs = [.slice A n c] ∧ n ≤ c ∧ n * B ≤ 140737488351232 ∧ ∃ zs : List Int, zs.length = n ∧ Reads W 1 A n (zs.map (.int k)) ∧ ∀ z ∈ zs, (Lit.int k z).wf = true := by
  obtain ⟨A, n, c, rfl, h1, h2, rows, h3, h4, h5⟩ := Came.slice ht hk hB h
  obtain ⟨zs, rfl, hz⟩ := spelt (f := fun z : Int => [Value.int k z]) (p := fun z => (Lit.int k z).wf = true) fun r hr => by
    obtain ⟨z, e, w⟩ := Came.int he (h5 r hr).2
    exact ⟨z, e, w⟩
  refine ⟨A, n, c, rfl, h1, h2, zs, by simpa using h3, ?_, hz⟩
  rwa [flat_ints] at h4
end
end Go.Proofs.YtagbmfdheppmoaaGreatDoor.Sep
